/- Plain: the flat format of an order's lines, its rows, its tail. Plain: rows of an order's lines: closed, turned, their totals, sums and columns. -/
import Derived.Test.YtbfbgappinilmaaGreatDoorTFA
import Derived.Test.YtbfbgappinilmaaGreatDoorZC
import Derived.Test.YtbfbgappinilmaaGreatDoorU2
-- merged: TFB TFC L1
namespace Go.Proofs.YtbfbgappinilmaaGreatDoor
open Go.RowKit Limb Nmb Work
set_option linter.unusedVariables false
set_option linter.unusedSimpArgs false
def wArt:ByteArray:=⟨#[97,114,116,105,99,108,101]⟩
def wQty:ByteArray:=⟨#[113,117,97,110,116,105,116,121]⟩
def wMny:ByteArray:=⟨#[109,97,110,121]⟩
def wLn:ByteArray:=⟨#[76]⟩
def wTl:ByteArray:=⟨#[84]⟩
def artC (m:Int):Col:=⟨wArt,1,40,0,0,false,if m=0 then 32 else 0,false⟩
def qtyC (m:Int):Col:=⟨wQty,2,20,3,0,decide (m=0),if m=0 then 48 else 0,false⟩
def mnyC (m:Int):Col:=⟨wMny,2,10,0,0,decide (m=0),if m=0 then 48 else 0,false⟩
def fltF (m:Int):Fmt:=⟨m,0,[⟨wLn,[artC m,qtyC m],0,⟨#[]⟩⟩,⟨wTl,[mnyC m,qtyC m],0,⟨#[]⟩⟩],⟨#[]⟩,wTl,wMny,wQty⟩
def FltM (m:Int):Prop:=m=0∨m=59
theorem flt_chk0:checkF (fltF 0)=0:=by decide +kernel
theorem flt_chk1:checkF (fltF 59)=0:=by decide +kernel
theorem flt_chk {m:Int} (h:FltM m):checkF (fltF m)=0:=by rcases h with rfl | rfl;exact flt_chk0;exact flt_chk1
theorem flt_mark {m:Int} (h:FltM m):m=0∨(0<=m/\m<=255/\markF m=false):=by
 rcases h with rfl | rfl
 ·exact .inl rfl
 ·exact .inr (by decide +kernel)
theorem flt_katL (m:Int):katI (fltF m) wLn=0:=by
 show ixF (tagIs wLn) _=0
 unfold fltF ixF
 rw [if_pos (by unfold tagIs;exact decide_eq_true rfl)]
theorem flt_katT (m:Int):katI (fltF m) wTl=1:=by
 have hne:¬ wLn=wTl:=by decide
 show ixF (tagIs wTl) _=1
 unfold fltF
 simp [ixF,tagIs,hne]
theorem flt_kL (m:Int):katK (fltF m) wLn=⟨wLn,[artC m,qtyC m],0,⟨#[]⟩⟩:=by unfold katK;rw [flt_katL];rfl
theorem flt_kT (m:Int):katK (fltF m) wTl=⟨wTl,[mnyC m,qtyC m],0,⟨#[]⟩⟩:=by unfold katK;rw [flt_katT];rfl
theorem qty_c (m:Int):NumC (qtyC m):=⟨rfl,⟨by show (0:Int)<=3;decide,by show (3:Int)<=9;decide⟩,⟨by show (1:Int)<=20;decide,by show (20:Int)<=100;decide⟩⟩
theorem mny_c (m:Int):NumC (mnyC m):=⟨rfl,⟨by show (0:Int)<=0;decide,by show (0:Int)<=9;decide⟩,⟨by show (1:Int)<=10;decide,by show (10:Int)<=100;decide⟩⟩
structure Lin where
 art:ByteArray
 u:Int
 q:Nat
structure LinK (x:Lin):Prop where
 art:nameB x.art.data.toList=true
 least:lstB x.u (x.q:Int)=true
 pos:0<x.u
 q3:x.q<=3
 full:scaled x.u (x.q:Int) 3<=1000000000000
def qtyS (u:Int) (q:Nat):ByteArray:=bs (textL u q)
def linR (x:Lin):RowP:=⟨wLn,[x.art,qtyS x.u x.q]⟩
def tlR (n:Nat) (u:Int) (q:Nat):RowP:=⟨wTl,[bs (Lib.itoa (n:Int)),qtyS u q]⟩
theorem scl_ge {u:Int} {q a:Nat} (h:0<u):u<=scaled u (q:Int) a:=by
 unfold scaled
 have h0:0<10 ^ (a-(q:Int).toNat):=Nat.pow_pos (by omega)
 have:u*1<=u*((10 ^ (a-(q:Int).toNat):Nat):Int):=Int.mul_le_mul_of_nonneg_left (by omega) (by omega)
 omega
theorem dec_short {n k:Nat} (hk:1<=k) (h:n<10 ^ k):(Lib.decDigits n).length<=k:=Nat.not_lt.1 fun h1=>by
 have:=dec_lt hk h1
 omega
theorem text_short {u:Int} {q:Nat} (h:0<u) (h1:u<=1000000000000000) (hq:q<=3):(textL u q).length<=20:=by
 have h2:=dec_short (n:=u.natAbs) (k:=16) (by decide) (by omega)
 rw [textL_len,if_neg (by omega)]
 split<;>split<;>omega
theorem qty_num {m:Int} {u:Int} {q:Nat} (hl:lstB u (q:Int)=true) (h0:0<u) (hq:q<=3) (hs:scaled u (q:Int) 3<=1000000000000000):NumV (qtyC m) (qtyS u q) u q:=by
 have h1:=scl_ge (q:=q) (a:=3) h0
 refine ⟨rfl,hl,h0,by omega,by show (q:Int)<=3;omega,hs,?_,?_⟩
 ·show ((Lib.decDigits (scaled u (q:Int) 3).toNat).length:Int)<=20
  have:=dec_short (n:=(scaled u (q:Int) 3).toNat) (k:=16) (by decide) (by omega)
  omega
 ·show ((textL u q).length:Int)<=20
  have:=text_short (q:=q) h0 (by omega) hq
  omega
theorem textL_nat (n:Nat):textL (n:Int) 0=Lib.decDigits n:=by
 have h:=dec_ne n
 have hp:padL (digL (n:Int)) 0=Lib.decDigits n:=by
  unfold padL digL
  rw [Int.natAbs_natCast,show 0+1-(Lib.decDigits n).length=0 by omega]
  rfl
 unfold textL befL behL sgL
 rw [hp,if_neg (by omega),if_pos rfl,Nat.sub_zero,List.take_length]
 simp
theorem itoa_textL (n:Nat):Lib.itoa (n:Int)=textL (n:Int) 0:=by
 rw [textL_nat]
 unfold Lib.itoa
 rw [if_neg (by omega)]
 rfl
theorem mny_num {m:Int} {n:Nat} (h0:0<n) (h1:n<=2000):NumV (mnyC m) (bs (Lib.itoa (n:Int))) (n:Int) 0:=by
 have e:scaled (n:Int) ((0:Nat):Int) 0=(n:Int):=by unfold scaled;simp
 have hd:=dec_short (n:=n) (k:=4) (by decide) (by omega)
 refine ⟨by rw [itoa_textL],by unfold lstB leastF;simp,by omega,by omega,by show ((0:Nat):Int)<=0;decide,?_,?_,?_⟩
 ·show scaled (n:Int) ((0:Nat):Int) 0<=_
  rw [e];omega
 ·show ((Lib.decDigits (scaled (n:Int) ((0:Nat):Int) 0).toNat).length:Int)<=10
  rw [e,Int.toNat_natCast];omega
 ·show ((textL (n:Int) 0).length:Int)<=10
  rw [textL_nat];omega
theorem art_txt {m:Int} {s:ByteArray} (h:nameB s.data.toList=true):TxtV (artC m) s:=by
 have h0:=h
 unfold nameB at h0
 simp only [Bool.and_eq_true,decide_eq_true_eq] at h0
 have e:s.data.toList.length=s.size:=by simp
 refine ⟨fun x hx=>?_,fun k=>?_,?_⟩
 ·have:=List.all_eq_true.1 h0.2 x hx
  unfold nameC lowB at this
  simp only [Bool.or_eq_true,decide_eq_true_eq,beq_iff_eq] at this
  omega
 ·rw [k] at h0
  exact absurd h0.1.1.1 (by decide)
 ·show (s.size:Int)<=40
  have:=h0.1.1.2
  omega
theorem art_no59 {s:ByteArray} (h:nameB s.data.toList=true):∀ x∈s.data.toList,x≠UInt8.ofNat (59:Int).toNat:=by
 unfold nameB at h
 simp only [Bool.and_eq_true,decide_eq_true_eq] at h
 intro x hx e
 have:=List.all_eq_true.1 h.2 x hx
 subst e
 revert this
 decide
theorem art_val {m:Int} (hm:FltM m) {s:ByteArray} (h:nameB s.data.toList=true):valF m 0 (artC m) s=0:=by
 refine txt_val rfl rfl (art_txt h) ?_
 rcases hm with rfl | rfl
 ·exact .inl rfl
 ·exact .inr (art_no59 h)
theorem lin_row {m:Int} (hm:FltM m) {x:Lin} (h:LinK x):rowF (fltF m) (linR x)=(0,0):=by
 unfold rowF
 rw [show (linR x).tag=wLn from rfl,flt_katL,flt_kL,if_neg (by decide),if_neg (by show ¬ 2≠2;decide)]
 refine frF_no fun j hj=>?_
 match j,hj with
 | 0,_=>exact art_val hm h.art
 | 1,_=>exact num_val (qty_c m) rfl (flt_mark hm) (qty_num h.least h.pos h.q3 (by have:=h.full;omega))
theorem tl_row {m:Int} (hm:FltM m) {n:Nat} {u:Int} {q:Nat} (h0:0<n) (h1:n<=2000) (hl:lstB u (q:Int)=true) (hu:0<u) (hq:q<=3) (hs:scaled u (q:Int) 3<=1000000000000000):rowF (fltF m) (tlR n u q)=(0,0):=by
 unfold rowF
 rw [show (tlR n u q).tag=wTl from rfl,flt_katT,flt_kT,if_neg (by decide),if_neg (by show ¬ 2≠2;decide)]
 refine frF_no fun j hj=>?_
 match j,hj with
 | 0,_=>exact num_val (mny_c m) rfl (flt_mark hm) (mny_num h0 h1)
 | 1,_=>exact num_val (qty_c m) rfl (flt_mark hm) (qty_num hl hu hq hs)
def FltR (r:RowP):Prop:=∀ m,FltM m->rowF (fltF m) r=(0,0)
def sumL:List Lin->Int
 | []=>0
 | x :: l=>scaled x.u (x.q:Int) 3+sumL l
theorem sumL_app (a b:List Lin):sumL (a++b)=sumL a+sumL b:=by
 induction a with
 | nil=>simp [sumL]
 | cons x a ih=>simp only [List.cons_append,sumL,ih];omega
theorem sumL_bd:∀ l:List Lin,(∀ x∈l,LinK x)->(l.length:Int)<=sumL l/\sumL l<=1000000000000*(l.length:Int)
 | [],_=>by simp [sumL]
 | x :: l,h=>by
  have h1:=h x (List.mem_cons_self ..)
  have h2:=sumL_bd l fun y hy=>h y (List.mem_cons_of_mem _ hy)
  have h3:=scl_pos (q:=x.q) (a:=3) h1.pos
  have h4:=h1.full
  simp only [sumL,List.length_cons]
  omega
theorem least_lst (u:Int):∀ q:Nat,lstB (leastF u q).1 (leastF u q).2=true:=by
 intro q
 induction q generalizing u with
 | zero=>unfold lstB leastF;simp [leastF]
 | succ q ih=>
  by_cases h:u%10=0
  ·rw [least_step h];exact ih _
  ·rw [least_stop h]
   exact decide_eq_true (least_stop h)
theorem few_least (z:Int):∀ q:Nat,fewF z q=made (leastF z q).1 (leastF z q).2:=by
 intro q
 induction q generalizing z with
 | zero=>rfl
 | succ q ih=>
  by_cases h:z%10=0
  ·rw [few_step h,least_step h,ih]
  ·rw [few_stop h,least_stop h]
theorem least_six (z:Int) (q:Nat):∀ k:Nat,leastF (z*((10 ^ k:Nat):Int)) (q+k)=leastF z q
 | 0=>by simp
 | k+1=>by
  have e:z*((10 ^ (k+1):Nat):Int)=z*((10 ^ k:Nat):Int)*10:=by
   rw [Nat.pow_succ];push_cast;rw [Int.mul_assoc]
  rw [e,show q+(k+1)=(q+k)+1 from rfl,least_step (by omega),Int.mul_ediv_cancel _ (by decide)]
  exact least_six z q k
theorem least_pos {z:Int} (h:0<z):∀ q:Nat,0<(leastF z q).1:=by
 intro q
 induction q generalizing z with
 | zero=>exact h
 | succ q ih=>
  by_cases h1:z%10=0
  ·rw [least_step h1];exact ih (by omega)
  ·rw [least_stop h1];exact h
def sumU (l:List Lin):Int:=(leastF (sumL l) 3).1
def sumQ (l:List Lin):Nat:=(leastF (sumL l) 3).2.toNat
theorem sumU_ok {l:List Lin} (h:∀ x∈l,LinK x) (h0:0<l.length) (h1:l.length<=500):lstB (sumU l) (sumQ l:Int)=true/\0<sumU l/\sumQ l<=3/\scaled (sumU l) (sumQ l:Int) 3=sumL l/\sumL l<=500000000000000:=by
 have h2:=sumL_bd l h
 have h3:=least_le (sumL l) 3
 have e:((sumQ l:Nat):Int)=(leastF (sumL l) 3).2:=by unfold sumQ;omega
 refine ⟨by rw [e];exact least_lst _ _,least_pos (by omega) _,by unfold sumQ;omega,by rw [e];exact least_scale _ _,by omega⟩
theorem few_sum {l:List Lin} (h:∀ x∈l,LinK x) (h0:0<l.length) (h1:l.length<=500):fewF (sumL l*1000000) 9=(sumU l,(sumQ l:Int),0):=by
 have h2:=least_six (sumL l) 3 6
 rw [show (((10 ^ 6:Nat)):Int)=1000000 from rfl] at h2
 have h3:=sumU_ok h h0 h1
 have h4:=least_le (sumL l) 3
 have e:((sumQ l:Nat):Int)=(leastF (sumL l) 3).2:=by unfold sumQ;omega
 rw [few_least,show (9:Nat)=3+6 from rfl,h2,<- e]
 have h5:=sumL_bd l h
 have h6:=h3.2.2.2.2
 unfold made
 rw [if_pos (by omega)]
 rfl
def linRs (l:List Lin):List RowP:=l.map linR
def allRs (l:List Lin):List RowP:=linRs l++[tlR l.length (sumU l) (sumQ l)]
theorem lin_rA {l:List Lin} {j:Nat} (h:j<l.length):∃ x,x∈l/\rA (linRs l) j=linR x:=⟨l[j],List.getElem_mem h,by unfold linRs rA;simp [List.getD_eq_getElem?_getD,h]⟩
theorem lin_len (l:List Lin):(linRs l).length=l.length:=by unfold linRs;simp
theorem all_len (l:List Lin):(allRs l).length=l.length+1:=by unfold allRs;simp [lin_len]
structure LinsK (l:List Lin):Prop where
 all:∀ x∈l,LinK x
 some:0<l.length
 many:l.length<=500
theorem all_rA {l:List Lin} {j:Nat} (h:j<(allRs l).length):(∃ x,x∈l/\rA (allRs l) j=linR x/\j<l.length)∨(j=l.length/\rA (allRs l) j=tlR l.length (sumU l) (sumQ l)):=by
 rw [all_len] at h
 unfold allRs
 by_cases hj:j<l.length
 ·obtain ⟨x,hx,e⟩:=lin_rA hj
  refine .inl ⟨x,hx,?_,hj⟩
  rw [<- e]
  unfold rA
  rw [List.getD_eq_getElem?_getD,List.getD_eq_getElem?_getD,List.getElem?_append_left (by rw [lin_len];exact hj)]
 ·obtain rfl:j=l.length:=by omega
  refine .inr ⟨rfl,?_⟩
  unfold rA
  rw [List.getD_eq_getElem?_getD,List.getElem?_append_right (by rw [lin_len];exact Nat.le_refl _),lin_len]
  simp
theorem tl_ok {l:List Lin} (h:LinsK l):FltR (tlR l.length (sumU l) (sumQ l)):=fun m hm=>by
 have h1:=sumU_ok h.all h.some h.many
 exact tl_row hm h.some (by have:=h.many;omega) h1.1 h1.2.1 h1.2.2.1 (by rw [h1.2.2.2.1];omega)
theorem all_ok {l:List Lin} (h:LinsK l) {j:Nat} (hj:j<(allRs l).length):FltR (rA (allRs l) j):=by
 rcases all_rA hj with ⟨x,hx,e,-⟩|⟨-,e⟩
 ·rw [e];exact fun m hm=>lin_row hm (h.all x hx)
 ·rw [e];exact tl_ok h
theorem all_rows {l:List Lin} (h:LinsK l) {m:Int} (hm:FltM m):(rowsF (fltF m) (allRs l)).2=0:=rows_all fun j hj=>by rw [all_ok h hj m hm]
theorem lin_rows {l:List Lin} (h:LinsK l) {m:Int} (hm:FltM m):(rowsF (fltF m) (linRs l)).2=0:=rows_all fun j hj=>by
 rw [lin_len] at hj
 obtain ⟨x,hx,e⟩:=lin_rA hj
 rw [e,lin_row hm (h.all x hx)]
theorem all_ask {l:List Lin} (h:LinsK l) {m:Int} (hm:FltM m):askF (fltF m) (allRs l)=0:=by
 unfold askF
 rw [if_neg (fun e=>e (flt_chk hm)),if_neg (by rw [all_len];have:=h.many;omega)]
 exact all_rows h hm
theorem lin_inn (l:List Lin) (m:Int):innL (fltF m) (linRs l)=linRs l:=by
 unfold innL
 refine List.filter_eq_self.2 fun r hr=>?_
 unfold linRs at hr
 obtain ⟨x,-,rfl⟩:=List.mem_map.1 hr
 have hne:¬ wLn=wTl:=by decide
 show (!((decide ((⟨#[]⟩:ByteArray)≠⟨#[]⟩)&&decide (wLn=⟨#[]⟩))||(decide (wTl≠⟨#[]⟩)&&decide (wLn=wTl))))=true
 rw [decide_eq_false hne,decide_eq_false (show ¬ ((⟨#[]⟩:ByteArray)≠⟨#[]⟩) from fun k=>k rfl)]
 simp
theorem lin_last (l:List Lin) (m:Int):lastB (fltF m) (linRs l)=false:=by
 unfold lastB
 by_cases h:0<(linRs l).length
 ·rw [lin_len] at h
  obtain ⟨x,-,e⟩:=lin_rA (l:=l) (j:=l.length-1) (by omega)
  rw [lin_len,e,decide_eq_false (show ¬ (linR x).tag=(fltF m).tail by show ¬ wLn=wTl;decide),Bool.and_false]
 ·rw [decide_eq_false h,Bool.false_and]
theorem ix_qty (c:Col) (m:Int) (h:¬ c.name=wQty):ixF (nameIs wQty) [c,qtyC m]=1:=by
 have h2:(qtyC m).name=wQty:=rfl
 simp [ixF,nameIs,h,h2]
theorem art_ne (m:Int):¬ (artC m).name=wQty:=by show ¬ wArt=wQty;decide
theorem mny_ne (m:Int):¬ (mnyC m).name=wQty:=by show ¬ wMny=wQty;decide
theorem ix_mny (m:Int):ixF (nameIs wMny) [mnyC m,qtyC m]=0:=by
 have h2:(mnyC m).name=wMny:=rfl
 simp [ixF,nameIs,h2]
theorem ix_art (m:Int):ixF (nameIs wArt) [artC m,qtyC m]=0:=by
 have h2:(artC m).name=wArt:=rfl
 simp [ixF,nameIs,h2]
theorem lin_bad (l:List Lin) (m:Int):sumB (fltF m) (linRs l)=false:=by
 unfold sumB
 rw [Bool.and_eq_false_iff]
 refine .inr ?_
 rw [Bool.eq_false_iff]
 intro k
 obtain ⟨r,hr,h2⟩:=List.any_eq_true.1 k
 unfold linRs at hr
 obtain ⟨x,-,rfl⟩:=List.mem_map.1 hr
 unfold badB at h2
 rw [show (linR x).tag=wLn from rfl,flt_kL,show (fltF m).sum=wQty from rfl] at h2
 simp only at h2
 rw [ix_qty _ _ (art_ne m)] at h2
 rw [show (cA [artC m,qtyC m] (1:Int).toNat).kind=2 from rfl] at h2
 revert h2
 decide
theorem qty_s9 {u:Int} {q:Nat} (h0:0<u) (h1:u<=1000000000000000) (hq:q<=3):scaled (readText (qtyS u q).data.toList).1 (readText (qtyS u q).data.toList).2.1 9=scaled u (q:Int) 3*1000000:=by
 unfold qtyS
 rw [bs_data,readText_back (u:=u) (q:=q) (by omega) (by omega)]
 simp only
 unfold scaled
 rw [Int.mul_assoc]
 congr 1
 rw [show 9-(q:Int).toNat=3-(q:Int).toNat+6 by omega,Nat.pow_add,Int.natCast_mul]
 rfl
theorem qty_ne (u:Int) (q:Nat):qtyS u q≠⟨#[]⟩:=bs_ne (textL_ne u q)
theorem lin_rowZ {m:Int} {x:Lin} (h:LinK x) {tag:ByteArray} (ht:tag=⟨#[]⟩∨tag=wLn):rowZ (fltF m) tag wQty (linR x)=scaled x.u (x.q:Int) 3*1000000:=by
 have hu:=scl_ge (q:=x.q) (a:=3) h.pos
 have hf:=h.full
 unfold rowZ
 rw [show (linR x).tag=wLn from rfl,flt_kL]
 simp only
 rw [ix_qty _ _ (art_ne m),show wd (linR x).vals ((1:Int).toNat)=qtyS x.u x.q from rfl,if_neg,qty_s9 h.pos (by omega) h.q3]
 rintro (⟨h1,h2⟩ | h1 | h1)
 ·rcases ht with k | k
  ·exact h1 k
  ·exact h2 k.symm
 ·exact absurd h1 (by decide)
 ·exact qty_ne _ _ h1
theorem rA_app_left {a b:List RowP} {j:Nat} (h:j<a.length):rA (a++b) j=rA a j:=by
 unfold rA
 rw [List.getD_eq_getElem?_getD,List.getD_eq_getElem?_getD,List.getElem?_append_left h]
theorem sumZr_app {f:Fmt} {tag name:ByteArray} {a b:List RowP} : ∀ {j:Nat},j<=a.length->sumZr f tag name (a++b) j=sumZr f tag name a j
 | 0,_=>rfl
 | j+1,h=>by
  show sumZr f tag name (a++b) j+rowZ f tag name (rA (a++b) j)=sumZr f tag name a j+rowZ f tag name (rA a j)
  rw [sumZr_app (by omega),rA_app_left (by omega)]
theorem lin_sumZ {m:Int} {l:List Lin} (h:∀ x∈l,LinK x) {tag:ByteArray} (ht:tag=⟨#[]⟩∨tag=wLn):sumZr (fltF m) tag wQty (linRs l) l.length=sumL l*1000000:=by
 have key:∀ j,j<=l.length->sumZr (fltF m) tag wQty (linRs l) j=sumL (l.take j)*1000000:=by
  intro j
  induction j with
  | zero=>intro _;simp [sumZr,sumL]
  | succ j ih=>
   intro hj
   have hx:rA (linRs l) j=linR l[j]:=by unfold linRs rA;simp [List.getD_eq_getElem?_getD,show j<l.length from hj]
   show sumZr (fltF m) tag wQty (linRs l) j+rowZ (fltF m) tag wQty (rA (linRs l) j)=_
   rw [ih (by omega),hx,lin_rowZ (h _ (List.getElem_mem _)) ht,List.take_succ_eq_append_getElem hj,sumL_app]
   simp only [sumL]
   omega
 have:=key l.length (Nat.le_refl _)
 rwa [List.take_length] at this
theorem lin_sumD {m:Int} {l:List Lin} (h:LinsK l):sumD (fltF m) (linRs l)=(sumU l,(sumQ l:Int),0):=by
 unfold sumD
 rw [lin_len,show (fltF m).sum=wQty from rfl,lin_sumZ h.all (.inl rfl),few_sum h.all h.some h.many]
theorem textR_ok {u:Int} {q:Nat} (h0:0<u) (h1:u<=1000000000000000) (hq:q<=9):textR u (q:Int)=textL u q:=by
 unfold textR
 rw [if_pos (decB_mk ⟨by omega,h1,by omega,by omega⟩),Int.toNat_natCast]
theorem lin_tail {m:Int} {l:List Lin} (h:LinsK l):tailP (fltF m) (linRs l)=tlR l.length (sumU l) (sumQ l):=by
 have h1:=sumU_ok h.all h.some h.many
 have h2:=scl_ge (q:=sumQ l) (a:=3) h1.2.1
 have e1:sumI (fltF m)=1:=by unfold sumI;rw [show (fltF m).tail=wTl from rfl,flt_kT,show (fltF m).sum=wQty from rfl];simp only;rw [ix_qty _ _ (mny_ne m)];rfl
 have e2:cntI (fltF m)=0:=by unfold cntI;rw [show (fltF m).tail=wTl from rfl,flt_kT,show (fltF m).count=wMny from rfl];simp only;rw [ix_mny m];rfl
 have e3:tailV0 (fltF m) (linRs l)=[⟨#[]⟩,⟨#[]⟩]:=by unfold tailV0;rw [lin_last,if_neg (by decide),show (fltF m).tail=wTl from rfl,flt_kT];rfl
 have e4:tailV1 (fltF m) (linRs l)=[⟨#[]⟩,qtyS (sumU l) (sumQ l)]:=by
  unfold tailV1
  rw [if_pos (show (fltF m).sum≠⟨#[]⟩ by show wQty≠⟨#[]⟩;decide),e1,e3,lin_inn]
  unfold sumS
  rw [lin_sumD h]
  simp only
  rw [textR_ok h1.2.1 (by omega) (by omega)]
  rfl
 unfold tailP tailV2
 rw [if_pos (show (fltF m).count≠⟨#[]⟩ by show wMny≠⟨#[]⟩;decide),e2,e4,lin_inn]
 unfold cntS tlR
 rw [lin_len]
 rfl
theorem lin_rest (l:List Lin) (m:Int):restL (fltF m) (linRs l)=linRs l:=by unfold restL;rw [lin_last,if_neg (by decide)]
theorem lin_closedE {m:Int} (hm:FltM m) {l:List Lin} (h:LinsK l):closedE (fltF m) (linRs l)=0:=by
 have h5:=h.many
 refine closedE_in ⟨flt_chk hm,by show wTl≠⟨#[]⟩;decide,by rw [lin_len];omega,lin_rows h hm,by rw [lin_inn];exact lin_bad l m,fun _=>by rw [lin_inn,lin_sumD h],by rw [lin_tail h,tl_ok h m hm],by rw [lin_rest,lin_len];omega⟩
theorem lin_closedL {m:Int} {l:List Lin} (h:LinsK l):closedL (fltF m) (linRs l)=allRs l:=by
 unfold closedL allRs
 rw [lin_rest,lin_tail h]
theorem lin_closed {m:Int} (hm:FltM m) {l:List Lin} (h:LinsK l):closedR (fltF m) (linRs l)=(allRs l,0):=by
 unfold closedR
 rw [if_neg (fun k=>k (lin_closedE hm h)),lin_closedL h]
theorem all_rowO {m:Int} {l:List Lin} {i:Nat} (hi:i<(allRs l).length):rowO (fltF m) (allRs l) i=0:=by
 have key:∀ t:ByteArray,∀ k:RKd,(rA (allRs l) i).tag=t->katK (fltF m) t=k->k.under=⟨#[]⟩->k.most=0->(t=wTl->i=(allRs l).length-1)->rowO (fltF m) (allRs l) i=0:=by
  intro t k e1 e2 e3 e4 e5
  unfold rowO
  rw [e1,e2,if_neg (fun x=>x.1 rfl),if_neg (fun x=>x.2.2 (e5 x.2.1)),if_neg,if_pos e4]
  unfold fromI
  rw [e1,e2,if_pos e3]
  decide
 rcases all_rA hi with ⟨x,hx,e,-⟩|⟨hi2,e⟩
 ·exact key wLn _ (by rw [e];rfl) (flt_kL m) rfl rfl (fun k=>absurd k (by decide))
 ·exact key wTl _ (by rw [e];rfl) (flt_kT m) rfl rfl (fun _=>by rw [all_len];omega)
theorem all_last (l:List Lin) (m:Int):lastB (fltF m) (allRs l)=true:=by
 unfold lastB
 rw [decide_eq_true (by rw [all_len];omega),Bool.true_and]
 rcases all_rA (l:=l) (j:=(allRs l).length-1) (by rw [all_len];omega) with ⟨x,hx,e,h⟩|⟨h,e⟩
 ·rw [all_len] at h;omega
 ·rw [e];exact decide_eq_true rfl
theorem all_ord {m:Int} (hm:FltM m) {l:List Lin} (h:LinsK l):(ordF (fltF m) (allRs l)).2=0:=by
 unfold ordF
 rw [if_neg (fun k=>k (flt_chk hm))]
 unfold ordR
 rw [if_neg (fun k=>k (all_rows h hm)),frF_no fun j hj=>all_rowO hj,if_neg (fun k=>k rfl),if_neg (fun k=>by rw [all_last] at k;cases k.2)]
theorem all_tot {m:Int} (hm:FltM m) {l:List Lin} (h:LinsK l):totF (fltF m) (allRs l)=(0,0):=by
 have h1:=closed_tot (lin_closedE hm h) (by rw [lin_closedL h];exact all_ord hm h)
 rwa [lin_closedL h] at h1
theorem flt_type:typeB (fltF 0) (fltF 59)=false:=by decide +kernel
theorem turn_two {m m':Int} {k o:RKd} {c1 c2 d1 d2:Col} {v1 v2:ByteArray} (hk:k.fields=[c1,c2]) (ho:o.fields=[d1,d2]) (h1:ixF (nameIs d1.name) [c1,c2]=0) (h2:ixF (nameIs d2.name) [c1,c2]=1):turnV k o [v1,v2]=[v1,v2]:=by
 unfold turnV
 rw [ho]
 simp only [List.map_cons,List.map_nil]
 unfold turnW
 rw [hk,h1,h2]
 rfl
theorem lost_two {k o:RKd} {c1 c2 d1 d2:Col} {v1 v2:ByteArray} (hk:k.fields=[c1,c2]) (ho:o.fields=[d1,d2]) (h1:ixF (nameIs c1.name) [d1,d2]=0) (h2:ixF (nameIs c2.name) [d1,d2]=1):lostN k o [v1,v2] k.fields.length=0:=by
 have e:k.fields.length=2:=by rw [hk];rfl
 rw [e]
 simp only [lostN]
 unfold lostB
 rw [hk,ho,show (cA [c1,c2] 0)=c1 from rfl,show (cA [c1,c2] 1)=c2 from rfl,h1,h2]
 simp
theorem turn_lin (x:Lin):turnO (fltF 0) (fltF 59) (linR x)=[linR x]/\turnC (fltF 0) (fltF 59) (linR x)=0:=by
 unfold turnO turnC
 rw [show (linR x).tag=wLn from rfl,flt_katL,flt_kL,flt_kL]
 rw [if_neg (by decide),if_neg (by decide)]
 constructor
 ·rw [show (linR x).vals=[x.art,qtyS x.u x.q] from rfl,turn_two (m:=0) (m':=0) (c1:=artC 0) (c2:=qtyC 0) (d1:=artC 59) (d2:=qtyC 59) rfl rfl (ix_art 0) (ix_qty _ _ (art_ne 0))]
  rfl
 ·rw [show (linR x).vals=[x.art,qtyS x.u x.q] from rfl]
  exact lost_two (c1:=artC 0) (c2:=qtyC 0) (d1:=artC 59) (d2:=qtyC 59) rfl rfl (ix_art 59) (ix_qty _ _ (art_ne 59))
theorem turn_tl (n:Nat) (u:Int) (q:Nat):turnO (fltF 0) (fltF 59) (tlR n u q)=[tlR n u q]/\turnC (fltF 0) (fltF 59) (tlR n u q)=0:=by
 unfold turnO turnC
 rw [show (tlR n u q).tag=wTl from rfl,flt_katT,flt_kT,flt_kT]
 rw [if_neg (by decide),if_neg (by decide)]
 constructor
 ·rw [show (tlR n u q).vals=[bs (Lib.itoa (n:Int)),qtyS u q] from rfl,turn_two (m:=0) (m':=0) (c1:=mnyC 0) (c2:=qtyC 0) (d1:=mnyC 59) (d2:=qtyC 59) rfl rfl (ix_mny 0) (ix_qty _ _ (mny_ne 0))]
  rfl
 ·rw [show (tlR n u q).vals=[bs (Lib.itoa (n:Int)),qtyS u q] from rfl]
  exact lost_two (c1:=mnyC 0) (c2:=qtyC 0) (d1:=mnyC 59) (d2:=qtyC 59) rfl rfl (ix_mny 59) (ix_qty _ _ (mny_ne 59))
theorem flatMap_one {α:Type} {f:α->List α} : ∀ {l:List α},(∀ x∈l,f x=[x])->l.flatMap f=l
 | [],_=>rfl
 | x :: l,h=>by rw [List.flatMap_cons,h x (List.mem_cons_self ..),flatMap_one fun y hy=>h y (List.mem_cons_of_mem _ hy)];rfl
theorem all_turn {l:List Lin} (h:LinsK l):turnR (fltF 0) (fltF 59) (allRs l)=(allRs l,0,0):=by
 have e1:turnRs (fltF 0) (fltF 59) (allRs l)=allRs l:=by
  unfold turnRs
  refine flatMap_one fun r hr=>?_
  obtain ⟨j,hj,rfl⟩:=mem_rA hr
  rcases all_rA hj with ⟨x,-,e,-⟩|⟨-,e⟩
  ·rw [e];exact (turn_lin x).1
  ·rw [e];exact (turn_tl _ _ _).1
 have e2:∀ j,j<=(allRs l).length->turnLs (fltF 0) (fltF 59) (allRs l) j=0:=by
  intro j
  induction j with
  | zero=>intro _;rfl
  | succ j ih=>
   intro hj
   show turnLs (fltF 0) (fltF 59) (allRs l) j+turnC (fltF 0) (fltF 59) (rA (allRs l) j)=0
   rw [ih (by omega)]
   rcases all_rA (show j<(allRs l).length from hj) with ⟨x,-,e,-⟩|⟨-,e⟩
   ·rw [e,(turn_lin x).2]
   ·rw [e,(turn_tl _ _ _).2]
 have e3:turnE (fltF 0) (fltF 59) (allRs l)=0:=by
  unfold turnE
  rw [if_neg (fun k=>k flt_chk0),if_neg (fun k=>k flt_chk1),if_neg (fun k=>k (all_ask h (.inl rfl))),flt_type,if_neg (by decide),e1]
  exact all_rows h (.inr rfl)
 unfold turnR
 rw [if_neg (fun k=>k e3),e1,e2 _ (Nat.le_refl _)]
theorem all_colAt {l:List Lin} (h:LinsK l):colAtF (fltF 59) (allRs l) wLn wQty=(1,qtyC 59,0)/\colAtF (fltF 59) (allRs l) wTl wMny=(0,mnyC 59,0):=by
 constructor
 ·unfold colAtF
  rw [if_neg (fun k=>k (all_ask h (.inr rfl))),flt_katL,flt_kL]
  simp only
  rw [ix_qty _ _ (art_ne 59),if_neg (by decide),if_neg (by decide)]
  rfl
 ·unfold colAtF
  rw [if_neg (fun k=>k (all_ask h (.inr rfl))),flt_katT,flt_kT]
  simp only
  rw [ix_mny 59,if_neg (by decide),if_neg (by decide)]
  rfl
theorem all_sum {l:List Lin} (h:LinsK l):sumOfR (fltF 59) (allRs l) wLn wQty=(sumU l,(sumQ l:Int),0):=by
 unfold sumOfR
 rw [(all_colAt h).1]
 simp only
 rw [if_neg (fun k=>k rfl),if_neg (fun k=>k rfl),all_len]
 have e:sumZr (fltF 59) wLn wQty (allRs l) (l.length+1)=sumL l*1000000:=by
  show sumZr (fltF 59) wLn wQty (allRs l) l.length+rowZ (fltF 59) wLn wQty (rA (allRs l) l.length)=_
  have e1:sumZr (fltF 59) wLn wQty (allRs l) l.length=sumL l*1000000:=by
   unfold allRs
   rw [sumZr_app (by rw [lin_len];exact Nat.le_refl _),lin_sumZ h.all (.inr rfl)]
  rcases all_rA (l:=l) (j:=l.length) (by rw [all_len];omega) with ⟨x,-,-,k⟩|⟨-,e2⟩
  ·omega
  ·rw [e1,e2]
   unfold rowZ
   rw [if_pos (.inl ⟨by decide,by show wTl≠wLn;decide⟩)]
   omega
 rw [e,few_sum h.all h.some h.many]
theorem all_count {l:List Lin} (h:LinsK l):columnR (fltF 59) (allRs l) wTl wMny=([bs (Lib.itoa (l.length:Int))],0):=by
 unfold columnR
 rw [(all_colAt h).2]
 simp only
 rw [if_neg (fun k=>k rfl)]
 congr 1
 unfold valsC
 rw [List.take_length]
 unfold allRs
 rw [List.filter_append,List.map_append]
 have e1:(linRs l).filter (fun r=>decide (r.tag=wTl))=[]:=by
  refine List.filter_eq_nil_iff.2 fun r hr=>?_
  unfold linRs at hr
  obtain ⟨x,-,rfl⟩:=List.mem_map.1 hr
  show ¬ decide (wLn=wTl)=true
  decide
 rw [e1]
 have e2:decide ((tlR l.length (sumU l) (sumQ l)).tag=wTl)=true:=decide_eq_true rfl
 simp [List.filter,e2]
 rfl
end Go.Proofs.YtbfbgappinilmaaGreatDoor
namespace Go.Proofs.YtbfbgappinilmaaGreatDoor
open Go.RowKit Limb
theorem sumZ_from (ds:List (Int×Int)) (q:Nat) (z:Int):ds.foldl (fun z d=>z+scaled d.1 d.2 q) z=z+sumZ ds q:=by
 induction ds generalizing z with
 | nil=>simp [sumZ]
 | cons d ds ih=>
  unfold sumZ
  rw [List.foldl_cons,List.foldl_cons,ih,ih]
  omega
theorem scaled_more {u p:Int} {q:Nat} (_h0:0<=p) (h1:p<=q) (h2:q<=9):scaled u p q*((10 ^ (9-q):Nat):Int)=scaled u p 9:=by
 unfold scaled
 rw [Int.mul_assoc,<- Int.natCast_mul,<- Nat.pow_add]
 congr 3
 omega
theorem sumZ_more (ds:List (Int×Int)) (q:Nat) (h2:q<=9) (h:∀ d∈ds,0<=d.2/\d.2<=q):sumZ ds q*((10 ^ (9-q):Nat):Int)=sumZ ds 9:=by
 induction ds with
 | nil=>simp [sumZ]
 | cons d ds ih=>
  have e:∀ r,sumZ (d :: ds) r=scaled d.1 d.2 r+sumZ ds r:=fun r=>by
   unfold sumZ
   rw [List.foldl_cons,sumZ_from,sumZ_from]
   omega
  have hd:=h d (by simp)
  rw [e,e,Int.add_mul,scaled_more hd.1 hd.2 h2,ih fun x hx=>h x (by simp [hx])]
end Go.Proofs.YtbfbgappinilmaaGreatDoor
