
/- The walks of package amount's days: readDay, ReadDay. -/
import Derived.Test.YtbfbgappinilmaaGreatDoorM2
import Derived.Test.YtbfbgappinilmaaGreatDoorA8
import Derived.Deep.RegionHeld3
namespace Go.Proofs.YtbfbgappinilmaaGreatDoor
open Go.RowKit Limb Work Nmb
set_option linter.unusedVariables false
set_option linter.unusedSimpArgs false
theorem strike_app (a b:List UInt8) (c:UInt8):strike (a++b) c=strike a c++strike b c:=by unfold strike;rw [List.filter_append]
theorem strike_digs {l:List UInt8} (h:digs l=true):strike l 45=l:=by
 unfold strike
 rw [List.filter_eq_self]
 intro x hx
 have:=digs_mem h x hx
 refine bne_iff_ne.2 (fun e=>?_)
 subst e
 revert this;decide
theorem byA_45 {c:UInt8} (h:(c.toNat:Int)=45):c=45:=by
 apply UInt8.toNat_inj.1
 show c.toNat=45
 omega
theorem point_parts {l:List UInt8} (h:pointB l=true):l=l.take 4++[45]++(l.drop 5).take 2++[45]++l.drop 8:=by
 obtain ⟨h1,h2,h3⟩:=of_decide_eq_true h
 match l,h1 with
 | [a0,a1,a2,a3,a4,a5,a6,a7,a8,a9],_=>
  have e4:a4=45:=byA_45 h2
  have e7:a7=45:=byA_45 h3
  subst e4;subst e7
  rfl
theorem point_strike {l:List UInt8} (h:pointB l=true) (h1:digs (l.take 4)=true) (h2:digs ((l.drop 5).take 2)=true) (h3:digs (l.drop 8)=true):strike l 45=l.take 4++(l.drop 5).take 2++l.drop 8:=by
 have e:=congrArg (fun x=>strike x 45) (point_parts h)
 refine e.trans ?_
 show strike (l.take 4++[45]++(l.drop 5).take 2++[45]++l.drop 8) 45=_
 rw [strike_app,strike_app,strike_app,strike_app,strike_digs h1,strike_digs h2,strike_digs h3,show strike [45] 45=[] from rfl]
 simp
def again (p:List UInt8):List UInt8:=p.take 4++[45]++(p.drop 4).take 2++[45]++p.drop 6
theorem again_of {a b c:List UInt8} (ha:a.length=4) (hb:b.length=2):again (a++b++c)=a++[45]++b++[45]++c:=by
 unfold again
 have e1:(a++b++c).take 4=a:=by rw [List.append_assoc,List.take_append_of_le_length (by omega),List.take_of_length_le (by omega)]
 have e2:(a++b++c).drop 4=b++c:=by rw [List.append_assoc,<- ha,List.drop_left]
 have e3:(a++b++c).drop 6=c:=by rw [show 6=(a++b).length by simp;omega,List.drop_left]
 rw [e1,e2,e3,List.take_append_of_le_length (by omega),List.take_of_length_le (by omega)]
theorem point_len {l:List UInt8} (h:pointB l=true):(l.take 4).length=4/\((l.drop 5).take 2).length=2/\(l.drop 8).length=2:=by
 have:=(of_decide_eq_true h).1
 simp;omega
theorem three_prt {a b c:List UInt8} (ha:a.length=4) (hb:b.length=2) (hc:c.length=2) (h1:digs a=true) (h2:digs b=true) (h3:digs c=true):prt [4,2,2] (a++b++c)=some [(dv a:Int),(dv b:Int),(dv c:Int)]:=by
 have e1:(a++b++c).take 4=a:=by rw [List.append_assoc,List.take_append_of_le_length (by omega),List.take_of_length_le (by omega)]
 have e2:(a++b++c).drop 4=b++c:=by rw [List.append_assoc,<- ha,List.drop_left]
 have e3:(a++b++c).drop (4+2)=c:=by rw [show 4+2=(a++b).length by simp;omega,List.drop_left]
 have e4:(b++c).take 2=b:=by rw [List.take_append_of_le_length (by omega),List.take_of_length_le (by omega)]
 rw [prt3 (by decide),e1,e2,e3,e4,if_pos ⟨by simp;omega,h1,h2,h3⟩]
theorem readO4_no {pv:Int} {l:List UInt8} (h:pointB l=false):readO 4 pv l=none:=by
 show (if pointB l=true then _ else none)=none
 rw [if_neg (by rw [h];simp)]
theorem readO4_yes {pv:Int} {l:List UInt8} (h:pointB l=true):readO 4 pv l=dayO (numF (l.take 4)) (numF ((l.drop 5).take 2)) (numF (l.drop 8)):=by
 show (if pointB l=true then _ else none)=_
 rw [if_pos h]
theorem point_cases {pv:Int} {l:List UInt8} (h:pointB l=true):readO 4 pv l=none∨(digs (l.take 4)=true/\digs ((l.drop 5).take 2)=true/\digs (l.drop 8)=true):=by
 rw [readO4_yes h]
 cases h1:digs (l.take 4) with
 | false=>exact .inl (dayO_neg (.inl (by rw [numF_no h1];decide)))
 | true=>
 cases h2:digs ((l.drop 5).take 2) with
 | false=>exact .inl (dayO_neg (.inr (.inl (by rw [numF_no h2];decide))))
 | true=>
 cases h3:digs (l.drop 8) with
 | false=>exact .inl (dayO_neg (.inr (.inr (by rw [numF_no h3];decide))))
 | true=>exact .inr ⟨rfl,rfl,rfl⟩
theorem point_none1 {pv:Int} {l:List UInt8} (hp:prt [4,2,2] (strike l 45)=none):readO 4 pv l=none:=by
 cases h:pointB l with
 | false=>exact readO4_no h
 | true=>
  rcases point_cases (pv:=pv) h with h1 | ⟨h1,h2,h3⟩
  ·exact h1
  ·obtain ⟨l1,l2,l3⟩:=point_len h
   rw [point_strike h h1 h2 h3,three_prt l1 l2 l3 h1 h2 h3] at hp
   cases hp
theorem point_none2 {pv:Int} {l:List UInt8} (hl:l≠again (strike l 45)):readO 4 pv l=none:=by
 cases h:pointB l with
 | false=>exact readO4_no h
 | true=>
  rcases point_cases (pv:=pv) h with h1 | ⟨h1,h2,h3⟩
  ·exact h1
  ·obtain ⟨l1,l2,l3⟩:=point_len h
   refine absurd ?_ hl
   rw [point_strike h h1 h2 h3,again_of l1 l2]
   exact point_parts h
theorem point_some {pv:Int} {l:List UInt8} {x y z:Int} (hp:prt [4,2,2] (strike l 45)=some [x,y,z]) (hl:l=again (strike l 45)):readO 4 pv l=dayO x y z:=by
 rw [prt3 (by decide)] at hp
 split at hp
 ·rename_i hc
  obtain ⟨c0,c1,c2,c3⟩:=hc
  generalize strike l 45=p at *
  match p,c0 with
  | [b0,b1,b2,b3,b4,b5,b6,b7],_=>
   subst hl
   have hpt:pointB (again [b0,b1,b2,b3,b4,b5,b6,b7])=true:=decide_eq_true ⟨rfl,rfl,rfl⟩
   rw [readO4_yes hpt]
   injection hp with hp
   injection hp with e1 hp
   injection hp with e2 hp
   injection hp with e3 hp
   rw [<- e1,<- e2,<- e3]
   show dayO (numF [b0,b1,b2,b3]) (numF [b4,b5]) (numF [b6,b7])=dayO (dv [b0,b1,b2,b3]) (dv [b4,b5]) (dv [b6,b7])
   rw [numF_yes (show digs [b0,b1,b2,b3]=true from c1),numF_yes (show digs [b4,b5]=true from c2),numF_yes (show digs [b6,b7]=true from c3)]
 ·cases hp
theorem prt_three {a b c:Nat} (hc:0<c) {l:List UInt8} {xs:List Int} (h:prt [a,b,c] l=some xs):∃ x y z,xs=[x,y,z]/\(a<=4->0<=x/\x<=9999)/\(b<=4->0<=y/\y<=9999)/\(c<=4->0<=z/\z<=9999)/\(c<=2->z<=99)/\(b<=2->y<=99)/\(c<=1->z<=9):=by
 rw [prt3 hc] at h
 split at h
 ·rename_i hd
  obtain ⟨h0,h1,h2,h3⟩:=hd
  injection h with h
  have a1:=dv_lt h1
  have a2:=dv_lt h2
  have a3:=dv_lt h3
  have l1:(l.take a).length=a:=by simp;omega
  have l2:((l.drop a).take b).length=b:=by simp;omega
  have l3:(l.drop (a+b)).length=c:=by simp;omega
  rw [l1] at a1;rw [l2] at a2;rw [l3] at a3
  refine ⟨_,_,_,h.symm,fun hk=>?_,fun hk=>?_,fun hk=>?_,fun hk=>?_,fun hk=>?_,fun hk=>?_⟩
  ·have:10 ^ a<=10 ^ 4:=Nat.pow_le_pow_right (by decide) hk
   omega
  ·have:10 ^ b<=10 ^ 4:=Nat.pow_le_pow_right (by decide) hk
   omega
  ·have:10 ^ c<=10 ^ 4:=Nat.pow_le_pow_right (by decide) hk
   omega
  ·have:10 ^ c<=10 ^ 2:=Nat.pow_le_pow_right (by decide) hk
   omega
  ·have:10 ^ b<=10 ^ 2:=Nat.pow_le_pow_right (by decide) hk
   omega
  ·have:10 ^ c<=10 ^ 1:=Nat.pow_le_pow_right (by decide) hk
   omega
 ·cases h
theorem readO_1 (pv:Int) (l:List UInt8):readO 1 pv l=opt3 dayO (prt [4,2,2] l):=by
 rw [opt3_prt (by decide) l dayO (fun x y z h=>dayO_neg (by omega))];rfl
theorem readO_3 (pv:Int) (l:List UInt8):readO 3 pv l=opt3 (fun x y z=>dayO z y x) (prt [2,2,4] l):=by
 rw [opt3_prt (by decide) l (fun x y z=>dayO z y x) (fun x y z h=>dayO_neg (by omega))];rfl
theorem readO_5 (pv:Int) (l:List UInt8):readO 5 pv l=opt3 weekO (prt [4,2,1] l):=by
 rw [opt3_prt (by decide) l weekO (fun x y z h=>weekO_no (weekB_neg (by omega)))];rfl
def shortO (pv x y z:Int):Option Int:=if 0<=x then dayO (pv+(x-pv)%100) y z else none
theorem readO_2 (pv:Int) (l:List UInt8):readO 2 pv l=opt3 (shortO pv) (prt [2,2,2] l):=by
 rw [opt3_prt (by decide) l (shortO pv) (fun x y z h=>by
  unfold shortO
  split
  ·exact dayO_neg (by omega)
  ·rfl)]
 rfl
theorem dayO_is (y m d:Int):dayO y m d=if dateB y m d=true then some (dayR y m d) else none:=by
 unfold dayO
 cases h:dateB y m d with
 | true=>rw [if_pos rfl,if_pos rfl,dayR_yes h]
 | false=>rfl
theorem retO_day {y m d:Int} {w w':World} (hb:Below w.heap.size w w'):RetO (dayO y m d) w (.returned (.tuple #[.int .i64 (dayR y m d),.bool (dateB y m d)])) w':=by
 rw [dayO_is]
 cases h:dateB y m d with
 | true=>exact ⟨_,rfl,fun v hv=>Option.some.inj hv,hb⟩
 | false=>exact ⟨_,rfl,(fun v hv=>by cases hv),hb⟩
theorem row3 (w:World) (a b c:Nat) (t:TypeId):∀ j,(h:j < [a,b,c].length)->(w.alloc (.cells #[.int .i64 (a:Int),.int .i64 (b:Int),.int .i64 (c:Int)] t)).cell? ⟨w.heap.size,j,none⟩=some (.int .i64 (([a,b,c][j]:Nat):Int)):=by
 intro j hj
 refine (cell_of_row _ _ _ _ _ _ (heap_new w _ rfl)).trans ?_
 match j,hj with
 | 0,_=>rfl
 | 1,_=>rfl
 | 2,_=>rfl
theorem widths3 {a b c:Nat} (ha:1<=a/\a<=4) (hb:1<=b/\b<=4) (hc:1<=c/\c<=4):widths [a,b,c]:=by
 intro j hj
 match j,hj with
 | 0,_=>exact ha
 | 1,_=>exact hb
 | 2,_=>exact hc
theorem tmod_year {n pv:Int} (h:1<=pv/\pv<=9900) (hn:0<=n/\n<=99):∃ t,(n-pv).tmod 100=t /\ -99<=t/\t<=99/\t%100=(n-pv)%100:=by
 refine ⟨_,rfl,?_⟩
 by_cases h0:0<=n-pv
 ·rw [Int.tmod_eq_emod_of_nonneg h0];omega
 ·have e:(n-pv).tmod 100=-((pv-n)%100):=by
   rw [show n-pv=-(pv-n) by omega,Int.neg_tmod,Int.tmod_eq_emod_of_nonneg (by omega)]
  rw [e];omega
theorem two_first {l:List UInt8} {x y z:Int} (h:prt [2,2,2] l=some [x,y,z]):x<=99:=by
 rw [prt3 (by decide)] at h
 split at h
 ·rename_i hd
  obtain ⟨h0,h1,h2,h3⟩:=hd
  injection h with h
  injection h with e1 h
  have a1:=dv_lt h1
  have:(l.take 2).length=2:=by simp;omega
  rw [this] at a1
  omega
 ·cases h
theorem again_ext (t:ByteArray):(t.extract 0 4++⟨#[45]⟩++t.extract 4 6++⟨#[45]⟩++t.extract 6 t.size).data.toList=again t.data.toList:=by
 unfold again
 rw [ByteArray.data_append,ByteArray.data_append,ByteArray.data_append,ByteArray.data_append,Array.toList_append,Array.toList_append,Array.toList_append,Array.toList_append,ext_to,ext_mid,ext_from]
set_option maxHeartbeats 2000000 in
set_option maxRecDepth 100000 in
theorem readday1_c (s:ByteArray) (pv:Int) (w:World) (hs:s.size<=140737488355328) (hpv:1<=pv/\pv<=9900) :
  Calls Tryz.prog 172 #[.string s,.int .i64 1,.int .i64 pv] w (RetO (readO 1 pv s.data.toList) w):=by
 obtain ⟨p1,p2⟩:=hpv
 have hT:=row3 w 4 2 2 3
 obtain ⟨O,hO⟩:∃ O,readO 1 pv s.data.toList=O:=⟨_,rfl⟩
 rw [hO]
 rw [readO_1] at hO
 have HP:=Lib.hid (parts_c s [4,2,2] w.heap.size 3 (w.alloc (.cells #[.int .i64 (4:Nat),.int .i64 (2:Nat),.int .i64 (2:Nat)] 3)) (by omega) (widths3 (by decide) (by decide) (by decide)) (by decide) (by simp) hT)
 clear hT
 have hal:Below w.heap.size w (w.alloc (.cells #[.int .i64 (4:Nat),.int .i64 (2:Nat),.int .i64 (2:Nat)] 3)):=by go_grown
 have HAL:=Lib.hid hal
 clear hal
 cases hp:prt [4,2,2] s.data.toList with
 | none=>
  rw [hp] at HP hO
  have HO:=Lib.hid (show O=none from hO.symm)
  clear hp hO
  go_enter Tryz.func172,Tryz.ntmps172
  go_wp2_with fail
  refine HP.out.mono ?_
  rintro e w1 ⟨v,rfl,hb1,-⟩
  have hbb:=below_then hb1 HAL.out (by simp)
  go_wp2
  go_ret2
  rw [HO.out]
  exact retO_none rfl hbb
 | some xs=>
  obtain ⟨x,y,z,rfl,bx,by_,bz,bz2,by2,bz1⟩:=prt_three (by decide) hp
  obtain ⟨bx0,bx9⟩:=bx (by decide)
  obtain ⟨by0,by9⟩:=by_ (by decide)
  obtain ⟨bz0,bz9⟩:=bz (by decide)
  clear bx by_ bz bz2 by2 bz1
  rw [hp] at HP hO
  have HO:=Lib.hid (show O=dayO x y z from hO.symm)
  clear hp hO
  have HC:=Lib.hid (fun w=>dayof_c x y z w ⟨by omega,by omega⟩)
  go_enter Tryz.func172,Tryz.ntmps172
  go_wp2_with fail
  refine HP.out.mono ?_
  rintro e w1 ⟨v,rfl,hb1,hv⟩
  obtain ⟨g,c,rfl,hcl⟩:=hv _ rfl (by simp)
  have c0:=hcl 0 (by simp)
  have c1:=hcl 1 (by simp)
  have c2:=hcl 2 (by simp)
  dsimp only [List.getElem_cons_zero,List.getElem_cons_succ,List.length_cons,List.length_nil] at c0 c1 c2
  have hg:g<w1.heap.size:=World.block_lt_of_cell? _ _ c0
  have hbb:=below_then hb1 HAL.out (by simp)
  clear hcl hv hb1
  go_wp2_with fail
  go_region_held3 (fun w'=>w'.cell? ⟨g,0,none⟩=some (.int .i64 x)/\w'.cell? ⟨g,1,none⟩=some (.int .i64 y)/\w'.cell? ⟨g,2,none⟩=some (.int .i64 z)) (first | exact ⟨c0,c1,c2⟩ | exact ⟨(hb2.cell (p:=⟨g,0,none⟩) hg).trans c0,(hb2.cell (p:=⟨g,1,none⟩) hg).trans c1,(hb2.cell (p:=⟨g,2,none⟩) hg).trans c2⟩ | (go_keep;done)) (first | (go_at_call 186;(with_reducible refine (HC.out _).mono ?_);rintro e w2 ⟨rfl,hb2⟩))
  go_wp2
  go_ret2
  rw [HO.out]
  exact retO_day (below_then hb2 hbb.drew hbb.size)
set_option maxHeartbeats 2000000 in
set_option maxRecDepth 100000 in
theorem readday2_c (s:ByteArray) (pv:Int) (w:World) (hs:s.size<=140737488355328) (hpv:1<=pv/\pv<=9900) :
  Calls Tryz.prog 172 #[.string s,.int .i64 2,.int .i64 pv] w (RetO (readO 2 pv s.data.toList) w):=by
 obtain ⟨p1,p2⟩:=hpv
 have hT:=row3 w 2 2 2 3
 obtain ⟨O,hO⟩:∃ O,readO 2 pv s.data.toList=O:=⟨_,rfl⟩
 rw [hO]
 rw [readO_2] at hO
 have HP:=Lib.hid (parts_c s [2,2,2] w.heap.size 3 (w.alloc (.cells #[.int .i64 (2:Nat),.int .i64 (2:Nat),.int .i64 (2:Nat)] 3)) (by omega) (widths3 (by decide) (by decide) (by decide)) (by decide) (by simp) hT)
 clear hT
 have hal:Below w.heap.size w (w.alloc (.cells #[.int .i64 (2:Nat),.int .i64 (2:Nat),.int .i64 (2:Nat)] 3)):=by go_grown
 have HAL:=Lib.hid hal
 clear hal
 cases hp:prt [2,2,2] s.data.toList with
 | none=>
  rw [hp] at HP hO
  have HO:=Lib.hid (show O=none from hO.symm)
  clear hp hO
  go_enter Tryz.func172,Tryz.ntmps172
  go_wp2_with fail
  refine HP.out.mono ?_
  rintro e w1 ⟨v,rfl,hb1,-⟩
  have hbb:=below_then hb1 HAL.out (by simp)
  go_wp2
  go_ret2
  rw [HO.out]
  exact retO_none rfl hbb
 | some xs=>
  obtain ⟨x,y,z,rfl,bx,by_,bz,bz2,by2,bz1⟩:=prt_three (by decide) hp
  obtain ⟨bx0,bx9⟩:=bx (by decide)
  obtain ⟨by0,by9⟩:=by_ (by decide)
  obtain ⟨bz0,bz9⟩:=bz (by decide)
  have bx99:x<=99:=two_first hp
  clear bx by_ bz bz2 by2 bz1
  rw [hp] at HP hO
  obtain ⟨tt,ht1,ht2,ht3,ht4⟩:=tmod_year (n:=x) ⟨p1,p2⟩ ⟨bx0,bx99⟩
  have HO:=Lib.hid (show O=dayO (pv+tt%100) y z by rw [<- hO,ht4];exact if_pos bx0)
  clear ht4
  clear hp hO
  have HC:=Lib.hid (fun w=>dayof_c (pv+tt%100) y z w ⟨by omega,by omega⟩)
  go_enter Tryz.func172,Tryz.ntmps172
  go_wp2_with fail
  refine HP.out.mono ?_
  rintro e w1 ⟨v,rfl,hb1,hv⟩
  obtain ⟨g,c,rfl,hcl⟩:=hv _ rfl (by simp)
  have c0:=hcl 0 (by simp)
  have c1:=hcl 1 (by simp)
  have c2:=hcl 2 (by simp)
  dsimp only [List.getElem_cons_zero,List.getElem_cons_succ,List.length_cons,List.length_nil] at c0 c1 c2
  have hg:g<w1.heap.size:=World.block_lt_of_cell? _ _ c0
  have hbb:=below_then hb1 HAL.out (by simp)
  clear hcl hv hb1
  go_wp2_with fail
  go_region_held3 (fun w'=>w'.cell? ⟨g,1,none⟩=some (.int .i64 y)/\w'.cell? ⟨g,2,none⟩=some (.int .i64 z)) (first | exact ⟨c1,c2⟩ | exact ⟨(hb2.cell (p:=⟨g,1,none⟩) hg).trans c1,(hb2.cell (p:=⟨g,2,none⟩) hg).trans c2⟩ | (go_keep;done)) (first | (go_at_call 186;(with_reducible refine (HC.out _).mono ?_);rintro e w2 ⟨rfl,hb2⟩))
  go_wp2
  go_ret2
  rw [HO.out]
  exact retO_day (below_then hb2 hbb.drew hbb.size)
set_option maxHeartbeats 2000000 in
set_option maxRecDepth 100000 in
theorem readday3_c (s:ByteArray) (pv:Int) (w:World) (hs:s.size<=140737488355328) (hpv:1<=pv/\pv<=9900) :
  Calls Tryz.prog 172 #[.string s,.int .i64 3,.int .i64 pv] w (RetO (readO 3 pv s.data.toList) w):=by
 obtain ⟨p1,p2⟩:=hpv
 have hT:=row3 w 2 2 4 3
 obtain ⟨O,hO⟩:∃ O,readO 3 pv s.data.toList=O:=⟨_,rfl⟩
 rw [hO]
 rw [readO_3] at hO
 have HP:=Lib.hid (parts_c s [2,2,4] w.heap.size 3 (w.alloc (.cells #[.int .i64 (2:Nat),.int .i64 (2:Nat),.int .i64 (4:Nat)] 3)) (by omega) (widths3 (by decide) (by decide) (by decide)) (by decide) (by simp) hT)
 clear hT
 have hal:Below w.heap.size w (w.alloc (.cells #[.int .i64 (2:Nat),.int .i64 (2:Nat),.int .i64 (4:Nat)] 3)):=by go_grown
 have HAL:=Lib.hid hal
 clear hal
 cases hp:prt [2,2,4] s.data.toList with
 | none=>
  rw [hp] at HP hO
  have HO:=Lib.hid (show O=none from hO.symm)
  clear hp hO
  go_enter Tryz.func172,Tryz.ntmps172
  go_wp2_with fail
  refine HP.out.mono ?_
  rintro e w1 ⟨v,rfl,hb1,-⟩
  have hbb:=below_then hb1 HAL.out (by simp)
  go_wp2
  go_ret2
  rw [HO.out]
  exact retO_none rfl hbb
 | some xs=>
  obtain ⟨x,y,z,rfl,bx,by_,bz,bz2,by2,bz1⟩:=prt_three (by decide) hp
  obtain ⟨bx0,bx9⟩:=bx (by decide)
  obtain ⟨by0,by9⟩:=by_ (by decide)
  obtain ⟨bz0,bz9⟩:=bz (by decide)
  clear bx by_ bz bz2 by2 bz1
  rw [hp] at HP hO
  have HO:=Lib.hid (show O=dayO z y x from hO.symm)
  clear hp hO
  have HC:=Lib.hid (fun w=>dayof_c z y x w ⟨by omega,by omega⟩)
  go_enter Tryz.func172,Tryz.ntmps172
  go_wp2_with fail
  refine HP.out.mono ?_
  rintro e w1 ⟨v,rfl,hb1,hv⟩
  obtain ⟨g,c,rfl,hcl⟩:=hv _ rfl (by simp)
  have c0:=hcl 0 (by simp)
  have c1:=hcl 1 (by simp)
  have c2:=hcl 2 (by simp)
  dsimp only [List.getElem_cons_zero,List.getElem_cons_succ,List.length_cons,List.length_nil] at c0 c1 c2
  have hg:g<w1.heap.size:=World.block_lt_of_cell? _ _ c0
  have hbb:=below_then hb1 HAL.out (by simp)
  clear hcl hv hb1
  go_wp2_with fail
  go_region_held3 (fun w'=>w'.cell? ⟨g,0,none⟩=some (.int .i64 x)/\w'.cell? ⟨g,1,none⟩=some (.int .i64 y)/\w'.cell? ⟨g,2,none⟩=some (.int .i64 z)) (first | exact ⟨c0,c1,c2⟩ | exact ⟨(hb2.cell (p:=⟨g,0,none⟩) hg).trans c0,(hb2.cell (p:=⟨g,1,none⟩) hg).trans c1,(hb2.cell (p:=⟨g,2,none⟩) hg).trans c2⟩ | (go_keep;done)) (first | (go_at_call 186;(with_reducible refine (HC.out _).mono ?_);rintro e w2 ⟨rfl,hb2⟩))
  go_wp2
  go_ret2
  rw [HO.out]
  exact retO_day (below_then hb2 hbb.drew hbb.size)
set_option maxHeartbeats 2000000 in
set_option maxRecDepth 100000 in
theorem readday4_c (s:ByteArray) (pv:Int) (w:World) (hs:s.size<=140737488355328) (hpv:1<=pv/\pv<=9900) :
  Calls Tryz.prog 172 #[.string s,.int .i64 4,.int .i64 pv] w (RetO (readO 4 pv s.data.toList) w):=by
 obtain ⟨p1,p2⟩:=hpv
 have HRA:=Lib.hid (fun w=>replaceAll_c s 45 w hs)
 obtain ⟨t,ht⟩:∃ t:ByteArray,(⟨(strike s.data.toList 45).toArray⟩:ByteArray)=t:=⟨_,rfl⟩
 have htl:t.data.toList=strike s.data.toList 45:=by rw [<- ht]
 have hts:t.size<=s.size:=by
  have e1:t.data.toList.length=t.size:=Array.length_toList
  have e2:s.data.toList.length=s.size:=Array.length_toList
  rw [<- e1,<- e2,htl];exact List.length_filter_le _ _
 have HRB:=Lib.hid (fun w=>(HRA.out w).mono (fun e w' (h:RetT _ w e w')=>show e=.returned (.string t)/\Below w.heap.size w w' from ⟨by rw [<- ht];exact h.1,h.2⟩))
 clear HRA ht
 have HT:=Lib.hid (fun w=>row3 w 4 2 2 3)
 obtain ⟨O,hO⟩:∃ O,readO 4 pv s.data.toList=O:=⟨_,rfl⟩
 rw [hO]
 have HP:=Lib.hid (fun (w:World)=>parts_c t [4,2,2] w.heap.size 3 (w.alloc (.cells #[.int .i64 (4:Nat),.int .i64 (2:Nat),.int .i64 (2:Nat)] 3)) (by omega) (widths3 (by decide) (by decide) (by decide)) (by decide) (by simp) (HT.out w))
 cases hp:prt [4,2,2] t.data.toList with
 | none=>
  rw [hp] at HP
  have HO:=Lib.hid (show O=none by rw [<- hO];exact point_none1 (by rw [<- htl];exact hp))
  clear hp hO htl hts
  go_enter Tryz.func172,Tryz.ntmps172
  go_wp2_with fail
  refine (HRB.out _).mono ?_
  rintro e w0 ⟨rfl,hb0⟩
  go_wp2_with fail
  refine (HP.out _).mono ?_
  rintro e w1 ⟨v,rfl,hb1,-⟩
  have hbb:=below_then hb1 (hb0.trans ((Below.refl w.heap.size w0).alloc hb0.size _)) (by have:=hb0.size;simp;omega)
  go_wp2
  go_quiet (fail)
  go_wp2
  go_ret2
  rw [HO.out]
  exact retO_none rfl (below_drewN hbb _)
 | some xs=>
  obtain ⟨x,y,z,rfl,bx,by_,bz,bz2,by2,bz1⟩:=prt_three (by decide) hp
  obtain ⟨bx0,bx9⟩:=bx (by decide)
  obtain ⟨by0,by9⟩:=by_ (by decide)
  obtain ⟨bz0,bz9⟩:=bz (by decide)
  clear bx by_ bz bz2 by2 bz1
  rw [hp] at HP
  have HC:=Lib.hid (fun w=>dayof_c x y z w ⟨by omega,by omega⟩)
  by_cases hag:s.data.toList=again t.data.toList
  case neg=>
   have HO:=Lib.hid (show O=none by rw [<- hO];exact point_none2 (by rw [<- htl];exact hag))
   have hne:s≠t.extract 0 4++⟨#[45]⟩++t.extract 4 6++⟨#[45]⟩++t.extract 6 t.size:=fun e=>hag (by rw [e];exact again_ext t)
   have e1:(s.toList==(t.extract 0 4++⟨#[45]⟩++t.extract 4 6++⟨#[45]⟩++t.extract 6 t.size).toList)=false:=(Lib.bytes_beq_false_iff _ _).2 hne
   have ht8:t.size=8:=by rw [prt3 (by decide)] at hp;split at hp;(rename_i hc;have e2:t.data.toList.length=t.size:=Array.length_toList;omega);cases hp
   have z4:(4:Int)<=(t.size:Int):=by omega
   have z6:(6:Int)<=(t.size:Int):=by omega
   obtain ⟨A,hA⟩:∃ A,t.extract 0 4=A:=⟨_,rfl⟩
   obtain ⟨B,hB⟩:∃ B,t.extract 4 6=B:=⟨_,rfl⟩
   obtain ⟨D,hD⟩:∃ D,t.extract 6 t.size=D:=⟨_,rfl⟩
   have xA:A.size<=4:=by rw [<- hA,ByteArray.size_extract];omega
   have xB:B.size<=2:=by rw [<- hB,ByteArray.size_extract];omega
   have xD:D.size<=2:=by rw [<- hD,ByteArray.size_extract];omega
   rw [hA,hB,hD] at e1
   have k1:¬ 9223372036854775807<A.size+1:=by omega
   have k2:¬ 9223372036854775807<A.size+1+B.size:=by omega
   have k3:¬ 9223372036854775807<A.size+1+B.size+1:=by omega
   have k4:¬ 9223372036854775807<A.size+1+B.size+1+D.size:=by omega
   clear hp hO hag hne ht8 htl HC xA xB xD
   go_enter Tryz.func172,Tryz.ntmps172
   go_wp2_with fail
   refine (HRB.out _).mono ?_
   rintro e w0 ⟨rfl,hb0⟩
   go_wp2_with fail
   refine (HP.out _).mono ?_
   rintro e w1 ⟨v,rfl,hb1,-⟩
   have hbb:=below_then hb1 (hb0.trans ((Below.refl w.heap.size w0).alloc hb0.size _)) (by have:=hb0.size;simp;omega)
   go_wp2
   go_quiet (fail)
   go_wp2
   go_ret2
   rw [HO.out]
   exact retO_none rfl (below_drewN hbb _)
  have HO:=Lib.hid (show O=dayO x y z by rw [<- hO];exact point_some (by rw [<- htl];exact hp) (by rw [<- htl];exact hag))
  have heq:t.extract 0 4++⟨#[45]⟩++t.extract 4 6++⟨#[45]⟩++t.extract 6 t.size=s:=by apply ByteArray.ext;rw [<- Array.toList_inj,hag];exact again_ext t
  have e1:(s.toList==(t.extract 0 4++⟨#[45]⟩++t.extract 4 6++⟨#[45]⟩++t.extract 6 t.size).toList)=true:=by rw [heq];exact beq_self_eq_true _
  have ht8:t.size=8:=by rw [prt3 (by decide)] at hp;split at hp;(rename_i hc;have e2:t.data.toList.length=t.size:=Array.length_toList;omega);cases hp
  have z4:(4:Int)<=(t.size:Int):=by omega
  have z6:(6:Int)<=(t.size:Int):=by omega
  obtain ⟨A,hA⟩:∃ A,t.extract 0 4=A:=⟨_,rfl⟩
  obtain ⟨B,hB⟩:∃ B,t.extract 4 6=B:=⟨_,rfl⟩
  obtain ⟨D,hD⟩:∃ D,t.extract 6 t.size=D:=⟨_,rfl⟩
  have xA:A.size<=4:=by rw [<- hA,ByteArray.size_extract];omega
  have xB:B.size<=2:=by rw [<- hB,ByteArray.size_extract];omega
  have xD:D.size<=2:=by rw [<- hD,ByteArray.size_extract];omega
  rw [hA,hB,hD] at e1
  have k1:¬ 9223372036854775807<A.size+1:=by omega
  have k2:¬ 9223372036854775807<A.size+1+B.size:=by omega
  have k3:¬ 9223372036854775807<A.size+1+B.size+1:=by omega
  have k4:¬ 9223372036854775807<A.size+1+B.size+1+D.size:=by omega
  clear hp hO hag heq ht8 htl xA xB xD
  go_enter Tryz.func172,Tryz.ntmps172
  go_wp2_with fail
  refine (HRB.out _).mono ?_
  rintro e w0 ⟨rfl,hb0⟩
  go_wp2_with fail
  refine (HP.out _).mono ?_
  rintro e w1 ⟨v,rfl,hb1,hv⟩
  obtain ⟨g,c,rfl,hcl⟩:=hv _ rfl (by simp)
  have c0:=hcl 0 (by simp)
  have c1:=hcl 1 (by simp)
  have c2:=hcl 2 (by simp)
  dsimp only [List.getElem_cons_zero,List.getElem_cons_succ,List.length_cons,List.length_nil] at c0 c1 c2
  have hg:g<w1.heap.size:=World.block_lt_of_cell? _ _ c0
  have hbb0:=below_then hb1 (hb0.trans ((Below.refl w.heap.size w0).alloc hb0.size _)) (by have:=hb0.size;simp;omega)
  clear hcl hv hb1
  go_wp2
  go_quiet (fail)
  generalize hw2:w1.drewN _=w9
  have d0:w9.cell? ⟨g,0,none⟩=some (.int .i64 x):=by rw [<- hw2];exact c0
  have d1:w9.cell? ⟨g,1,none⟩=some (.int .i64 y):=by rw [<- hw2];exact c1
  have d2:w9.cell? ⟨g,2,none⟩=some (.int .i64 z):=by rw [<- hw2];exact c2
  have hg9:g<w9.heap.size:=by rw [<- hw2];exact hg
  have hbb:Below w.heap.size w w9:=by rw [<- hw2];exact below_drewN hbb0 _
  clear c0 c1 c2 hg hbb0 hw2 k1 k2 k3 k4 hA hB hD e1
  have c0:=d0;have c1:=d1;have c2:=d2;have hg:=hg9
  clear d0 d1 d2 hg9
  go_wp2_with fail
  go_region_held3 (fun w'=>w'.cell? ⟨g,0,none⟩=some (.int .i64 x)/\w'.cell? ⟨g,1,none⟩=some (.int .i64 y)/\w'.cell? ⟨g,2,none⟩=some (.int .i64 z)) (first | exact ⟨c0,c1,c2⟩ | exact ⟨(hb2.cell (p:=⟨g,0,none⟩) hg).trans c0,(hb2.cell (p:=⟨g,1,none⟩) hg).trans c1,(hb2.cell (p:=⟨g,2,none⟩) hg).trans c2⟩ | (go_keep;done)) (first | (go_at_call 186;(with_reducible refine (HC.out _).mono ?_);rintro e w2 ⟨rfl,hb2⟩))
  go_wp2
  go_ret2
  rw [HO.out]
  exact retO_day (below_then hb2 hbb.drew hbb.size)
set_option maxHeartbeats 2000000 in
set_option maxRecDepth 100000 in
theorem readday5_c (s:ByteArray) (pv:Int) (w:World) (hs:s.size<=140737488355328) (hpv:1<=pv/\pv<=9900) :
  Calls Tryz.prog 172 #[.string s,.int .i64 5,.int .i64 pv] w (RetO (readO 5 pv s.data.toList) w):=by
 obtain ⟨p1,p2⟩:=hpv
 have hT:=row3 w 4 2 1 3
 obtain ⟨O,hO⟩:∃ O,readO 5 pv s.data.toList=O:=⟨_,rfl⟩
 rw [hO]
 rw [readO_5] at hO
 have HP:=Lib.hid (parts_c s [4,2,1] w.heap.size 3 (w.alloc (.cells #[.int .i64 (4:Nat),.int .i64 (2:Nat),.int .i64 (1:Nat)] 3)) (by omega) (widths3 (by decide) (by decide) (by decide)) (by decide) (by simp) hT)
 clear hT
 have hal:Below w.heap.size w (w.alloc (.cells #[.int .i64 (4:Nat),.int .i64 (2:Nat),.int .i64 (1:Nat)] 3)):=by go_grown
 have HAL:=Lib.hid hal
 clear hal
 cases hp:prt [4,2,1] s.data.toList with
 | none=>
  rw [hp] at HP hO
  have HO:=Lib.hid (show O=none from hO.symm)
  clear hp hO
  go_enter Tryz.func172,Tryz.ntmps172
  go_wp2_with fail
  refine HP.out.mono ?_
  rintro e w1 ⟨v,rfl,hb1,-⟩
  have hbb:=below_then hb1 HAL.out (by simp)
  go_wp2
  go_ret2
  rw [HO.out]
  exact retO_none rfl hbb
 | some xs=>
  obtain ⟨x,y,z,rfl,bx,by_,bz,bz2,by2,bz1⟩:=prt_three (by decide) hp
  obtain ⟨bx0,bx9⟩:=bx (by decide)
  obtain ⟨by0,by9⟩:=by_ (by decide)
  obtain ⟨bz0,bz9⟩:=bz (by decide)
  have by99:=by2 (by decide)
  have bz09:=bz1 (by decide)
  clear bx by_ bz bz2 by2 bz1
  rw [hp] at HP hO
  have HO:=Lib.hid (show O=weekO x y z from hO.symm)
  clear hp hO
  have HC:=Lib.hid (fun w=>weekday3_c x y z w ⟨by omega,by omega⟩ ⟨by omega,by omega⟩ ⟨by omega,by omega⟩)
  go_enter Tryz.func172,Tryz.ntmps172
  go_wp2_with fail
  refine HP.out.mono ?_
  rintro e w1 ⟨v,rfl,hb1,hv⟩
  obtain ⟨g,c,rfl,hcl⟩:=hv _ rfl (by simp)
  have c0:=hcl 0 (by simp)
  have c1:=hcl 1 (by simp)
  have c2:=hcl 2 (by simp)
  dsimp only [List.getElem_cons_zero,List.getElem_cons_succ,List.length_cons,List.length_nil] at c0 c1 c2
  have hg:g<w1.heap.size:=World.block_lt_of_cell? _ _ c0
  have hbb:=below_then hb1 HAL.out (by simp)
  clear hcl hv hb1
  go_wp2_with fail
  go_region_held3 (fun w'=>w'.cell? ⟨g,0,none⟩=some (.int .i64 x)/\w'.cell? ⟨g,1,none⟩=some (.int .i64 y)/\w'.cell? ⟨g,2,none⟩=some (.int .i64 z)) (first | exact ⟨c0,c1,c2⟩ | exact ⟨(hb2.cell (p:=⟨g,0,none⟩) hg).trans c0,(hb2.cell (p:=⟨g,1,none⟩) hg).trans c1,(hb2.cell (p:=⟨g,2,none⟩) hg).trans c2⟩ | (go_keep;done)) (first | (go_at_call 187;(with_reducible refine (HC.out _).mono ?_);rintro e w2 ⟨n,rfl,hn,hb2⟩))
  go_wp2
  go_ret2
  rw [HO.out]
  exact ⟨n,rfl,hn,below_then hb2 hbb.drew hbb.size⟩
theorem readday_c (s:ByteArray) (form pv:Int) (w:World) (hs:s.size<=140737488355328) (hform:1<=form/\form<=5) (hpv:1<=pv/\pv<=9900) :
  Calls Tryz.prog 172 #[.string s,.int .i64 form,.int .i64 pv] w (RetO (readO form pv s.data.toList) w):=by
 rcases (show form=1∨form=2∨form=3∨form=4∨form=5 by omega) with rfl | rfl | rfl | rfl | rfl
 ·exact readday1_c s pv w hs hpv
 ·exact readday2_c s pv w hs hpv
 ·exact readday3_c s pv w hs hpv
 ·exact readday4_c s pv w hs hpv
 ·exact readday5_c s pv w hs hpv
def rdN (form pv:Int) (l:List UInt8):Int:=if formB form=true/\(1<=pv/\pv<=9900) then (readO form pv l).getD 0 else 0
def rdF (form pv:Int) (l:List UInt8):Int:=if formB form=false then 4 else if ¬ (1<=pv/\pv<=9900) then 1 else if (readO form pv l).isSome=true then 0 else 10
theorem ReadDay_c (s:ByteArray) (form pv:Int) (w:World) (hs:s.size<=140737488355328) :
  Calls Tryz.prog 152 #[.string s,.int .i64 form,.int .i64 pv] w (RetNF (rdN form pv s.data.toList) (rdF form pv s.data.toList) w):=by
 unfold rdN rdF
 cases hf:formB form with
 | false=>
  rw [if_neg (by simp),if_pos rfl]
  have HF:=Lib.hid hf;clear hf
  go_enter Tryz.func152,Tryz.ntmps152
  go_wp2_with fail
  refine (isform_c _ _).mono ?_
  rw [HF.out]
  rintro e w1 ⟨rfl,rfl⟩
  go_wp2
  go_ret2
  exact ⟨rfl,Below.refl _ _⟩
 | true=>
  have HF:=Lib.hid hf
  have hform:=of_decide_eq_true hf
  clear hf
  by_cases hp:1<=pv/\pv<=9900
  case neg=>
   rw [if_neg (fun h=>hp h.2),if_neg (by simp),if_pos hp]
   go_enter Tryz.func152,Tryz.ntmps152
   go_wp2_with fail
   refine (isform_c _ _).mono ?_
   rw [HF.out]
   rintro e w1 ⟨rfl,rfl⟩
   go_wp2_with fail
   refine (out_yes _ _ _ _ hp).mono ?_
   rintro e w1 ⟨rfl,rfl⟩
   go_wp2
   go_ret2
   exact ⟨rfl,Below.refl _ _⟩
  rw [if_pos ⟨rfl,hp⟩,if_neg (by simp),if_neg (fun h=>h hp)]
  have HR:=Lib.hid (fun w=>readday_c s form pv w hs hform hp)
  cases ho:readO form pv s.data.toList with
  | none=>
   rw [ho] at HR
   clear ho hform
   go_enter Tryz.func152,Tryz.ntmps152
   go_wp2_with fail
   refine (isform_c _ _).mono ?_
   rw [HF.out]
   rintro e w1 ⟨rfl,rfl⟩
   go_wp2_with fail
   refine (out_no _ _ _ _ hp).mono ?_
   rintro e w1 ⟨rfl,rfl⟩
   go_wp2_with fail
   refine (HR.out _).mono ?_
   rintro e w1 ⟨n,rfl,-,hb⟩
   go_wp2
   go_ret2
   exact ⟨rfl,hb⟩
  | some v=>
   rw [ho] at HR
   clear ho hform
   go_enter Tryz.func152,Tryz.ntmps152
   go_wp2_with fail
   refine (isform_c _ _).mono ?_
   rw [HF.out]
   rintro e w1 ⟨rfl,rfl⟩
   go_wp2_with fail
   refine (out_no _ _ _ _ hp).mono ?_
   rintro e w1 ⟨rfl,rfl⟩
   go_wp2_with fail
   refine (HR.out _).mono ?_
   rintro e w1 ⟨n,rfl,hn,hb⟩
   obtain rfl:=hn _ rfl
   clear hn
   go_wp2
   go_ret2
   exact ⟨rfl,hb⟩
end Go.Proofs.YtbfbgappinilmaaGreatDoor
