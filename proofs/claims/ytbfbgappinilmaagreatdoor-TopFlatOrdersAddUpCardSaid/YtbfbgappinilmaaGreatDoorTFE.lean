/- Plain: the lines of rows of an order's lines are read again; the exact sum. The walks of package order: what a right order has. -/
import Derived.Test.YtbfbgappinilmaaGreatDoorL1
import Derived.Test.YtbfbgappinilmaaGreatDoorF1
import Derived.Test.YtbfbgappinilmaaGreatDoorE2
import Derived.Test.YtbfbgappinilmaaGreatDoorA1
import Derived.Test.YtbfbgappinilmaaGreatDoorK4
import Derived.Deep.QuietTactic
import Derived.BigQuiet
-- merged: TFD TFE
namespace Go.Proofs.YtbfbgappinilmaaGreatDoor
open Go.RowKit Limb Nmb Work
set_option linter.unusedVariables false
set_option linter.unusedSimpArgs false
theorem bs_sz (l:List UInt8):(bs l).size=l.length:=bs_size2 l
theorem bs_cut (a b c:List UInt8):(bs (a++(b++c))).extract a.length (a.length+b.length)=bs b:=by
 have h:((bs (a++(b++c))).extract a.length (a.length+b.length)).data.toList=(bs b).data.toList:=by
  rw [Lib.extract_data,bs_data,bs_data,List.drop_left,Nat.add_sub_cancel_left,List.take_left]
 exact ByteArray.ext (Array.toList_inj.1 h)
structure FixV (c:Col) (s:ByteArray):Prop where
 read:fromO c (filS 0 c s)=(s,true)
 size:(filS 0 c s).size=c.width.toNat
 pos:0<=c.width
 seen:∀ x∈(filS 0 c s).data.toList,x≠10
theorem num_fix {c:Col} {s:ByteArray} {u:Int} {q:Nat} (hc:NumC c) (hr:c.right=true) (hf:c.fill=48) (h:NumV c s u q):FixV c s:=by
 have hw:=h.wide
 refine ⟨num_read hc hr hf h,?_,by have:=hc.width;omega,fun x hx e=>?_⟩
 ·rw [num_fil hc hr hf h,bs_sz,List.length_append,List.length_replicate]
  omega
 ·rw [num_fil hc hr hf h,bs_data] at hx
  subst e
  rcases List.mem_append.1 hx with k | k
  ·have:=(List.mem_replicate.1 k).2;revert this;decide
  ·have:=dec_dig _ _ k;simp at this
theorem txt_fix {c:Col} {s:ByteArray} (hk:c.kind=1) (hr:c.right=false) (hf:c.fill=32) (h:TxtV c s):FixV c s:=by
 have hw:=h.wide
 refine ⟨txt_read hk hr hf h,?_,by omega,fun x hx e=>?_⟩
 ·rw [txt_fil hk hr hf h,bs_sz,List.length_append,List.length_replicate,data_len6]
  omega
 ·rw [txt_fil hk hr hf h,bs_data] at hx
  subst e
  rcases List.mem_append.1 hx with k | k
  ·have:=h.seen _ k;simp at this
  ·have:=(List.mem_replicate.1 k).2;revert this;decide
theorem line_two {r:RowP} {t:UInt8} {k:RKd} {c1 c2:Col} {v1 v2:ByteArray} (ht:r.tag=⟨#[t]⟩) (hk:katK (fltF 0) r.tag=k) (hf:k.fields=[c1,c2]) (hv:r.vals=[v1,v2]):lineL (fltF 0) r=[t]++((filS 0 c1 v1).data.toList++(filS 0 c2 v2).data.toList):=by
 unfold lineL
 rw [hk,hf,hv,ht]
 show [t]++fldsL 0 0 [c1,c2] [v1,v2] 2=_
 rw [fldsL_succ,fldsL_succ,fldsL_zero]
 rfl
theorem read_two {r:RowP} {t:UInt8} {k:RKd} {c1 c2:Col} {v1 v2:ByteArray} (ht:r.tag=⟨#[t]⟩) (hi:¬ katI (fltF 0) r.tag<0) (hk:katK (fltF 0) r.tag=k) (hkt:k.tag=r.tag) (hf:k.fields=[c1,c2]) (hv:r.vals=[v1,v2]) (h1:FixV c1 v1) (h2:FixV c2 v2) (hs:c1.width+c2.width<=200) (hr:rowF (fltF 0) r=(0,0)) :
  lineO (fltF 0) (bs (lineL (fltF 0) r))=(r,0,0):=by
 obtain ⟨a,ha⟩:∃ a,(filS 0 c1 v1).data.toList=a:=⟨_,rfl⟩
 obtain ⟨b,hb⟩:∃ b,(filS 0 c2 v2).data.toList=b:=⟨_,rfl⟩
 have la:a.length=c1.width.toNat:=by rw [<- ha,data_len6];exact h1.size
 have lb:b.length=c2.width.toNat:=by rw [<- hb,data_len6];exact h2.size
 have ea:filS 0 c1 v1=bs a:=by rw [<- ha];exact (bs_self _).symm
 have eb:filS 0 c2 v2=bs b:=by rw [<- hb];exact (bs_self _).symm
 have hL:lineL (fltF 0) r=[t]++(a++b):=by rw [line_two ht hk hf hv,ha,hb]
 have hp1:=h1.pos
 have hp2:=h2.pos
 have hsz:(bs (lineL (fltF 0) r)).size=1+(a.length+b.length):=by rw [bs_sz,hL];simp;omega
 have htn:tagN (fltF 0) (bs (lineL (fltF 0) r))=1:=by
  unfold tagN
  rw [if_pos (show (fltF 0).mark=0 from rfl),hsz]
  show min 1 _=1
  omega
 have hx0:(bs (lineL (fltF 0) r)).extract 0 1=r.tag:=by
  have:=bs_cut [] [t] (a++b)
  rw [hL,ht]
  exact this
 have hx1:(bs (lineL (fltF 0) r)).extract 1 (1+c1.width.toNat)=filS 0 c1 v1:=by
  have:=bs_cut [t] a b
  rw [hL,ea,<- la]
  exact this
 have hx2:(bs (lineL (fltF 0) r)).extract (1+c1.width.toNat) (1+c1.width.toNat+c2.width.toNat)=filS 0 c2 v2:=by
  have:=bs_cut ([t]++a) b []
  rw [List.append_nil,List.length_append,List.length_singleton,la,lb,List.append_assoc] at this
  rw [hL,eb]
  exact this
 have hrd1:rdV 0 0 (bs (lineL (fltF 0) r)) c1 1=(v1,true):=by
  unfold rdV fixO
  rw [if_pos rfl,if_neg (by rw [hsz];omega),hx1]
  exact h1.read
 have hrd2:rdV 0 0 (bs (lineL (fltF 0) r)) c2 (1+c1.width.toNat)=(v2,true):=by
  unfold rdV fixO
  rw [if_pos rfl,if_neg (by rw [hsz];omega),hx2]
  exact h2.read
 have hri1:rdI 0 0 (bs (lineL (fltF 0) r)) c1 1=1+c1.width.toNat:=by unfold rdI;rw [if_pos rfl]
 have hri2:rdI 0 0 (bs (lineL (fltF 0) r)) c2 (1+c1.width.toNat)=1+c1.width.toNat+c2.width.toNat:=by unfold rdI;rw [if_pos rfl]
 have hrc:rdCols 0 0 (bs (lineL (fltF 0) r)) k.fields 1=([v1,v2],1+c1.width.toNat+c2.width.toNat,true):=by
  rw [hf]
  unfold rdCols
  rw [hrd1,if_pos rfl,hri1]
  unfold rdCols
  rw [hrd2,if_pos rfl,hri2]
  unfold rdCols
  rfl
 have hrow:(⟨k.tag,[v1,v2]⟩:RowP)=r:=by rw [hkt,<- hv]
 unfold lineO
 rw [htn,hx0,hk,show (fltF 0).mark=0 from rfl,show (fltF 0).quote=0 from rfl,hrc,if_neg (by rw [hsz];omega),if_neg hi]
 simp only
 rw [if_neg (by decide),if_neg (by rw [hsz];omega),hrow,hr,if_neg (fun x=>x rfl)]
theorem line_facts {r:RowP} {t:UInt8} {k:RKd} {c1 c2:Col} {v1 v2:ByteArray} (ht:r.tag=⟨#[t]⟩) (h10:t≠10) (hk:katK (fltF 0) r.tag=k) (hf:k.fields=[c1,c2]) (hv:r.vals=[v1,v2]) (h1:FixV c1 v1) (h2:FixV c2 v2) (hs:c1.width+c2.width<=60) :
  (lineL (fltF 0) r).length<=61/\(10:UInt8)∉lineL (fltF 0) r:=by
 have hp1:=h1.pos
 have hp2:=h2.pos
 have l1:=h1.size
 have l2:=h2.size
 rw [line_two ht hk hf hv]
 refine ⟨?_,fun hm=>?_⟩
 ·rw [List.length_append,List.length_append,List.length_singleton,data_len6,data_len6]
  omega
 ·rcases List.mem_append.1 hm with m | m
  ·rw [List.mem_singleton] at m;exact h10 m.symm
  ·rcases List.mem_append.1 m with m | m
   ·exact h1.seen _ m rfl
   ·exact h2.seen _ m rfl
theorem all_read {l:List Lin} (h:LinsK l) {j:Nat} (hj:j<(allRs l).length):lineO (fltF 0) (bs (lineL (fltF 0) (rA (allRs l) j)))=(rA (allRs l) j,0,0)/\(lineL (fltF 0) (rA (allRs l) j)).length<=61/\(10:UInt8)∉lineL (fltF 0) (rA (allRs l) j):=by
 have hr:=all_ok h hj 0 (.inl rfl)
 rcases all_rA hj with ⟨x,hx,e,-⟩|⟨-,e⟩
 ·have hk:=h.all x hx
  rw [e] at hr ⊢
  have f1:FixV (artC 0) x.art:=txt_fix rfl rfl rfl (art_txt hk.art)
  have f2:FixV (qtyC 0) (qtyS x.u x.q):=num_fix (qty_c 0) rfl rfl (qty_num hk.least hk.pos hk.q3 (by have:=hk.full;omega))
  exact ⟨read_two (t:=76) (c1:=artC 0) (c2:=qtyC 0) rfl (by show ¬ katI (fltF 0) wLn<0;rw [flt_katL];decide) (flt_kL 0) rfl rfl rfl f1 f2 (by show (40:Int)+20<=200;decide) hr,line_facts (t:=76) (c1:=artC 0) (c2:=qtyC 0) rfl (by decide) (flt_kL 0) rfl rfl f1 f2 (by show (40:Int)+20<=60;decide)⟩
 ·have h1:=sumU_ok h.all h.some h.many
  rw [e] at hr ⊢
  have f1:FixV (mnyC 0) (bs (Lib.itoa (l.length:Int))):=num_fix (mny_c 0) rfl rfl (mny_num h.some (by have:=h.many;omega))
  have f2:FixV (qtyC 0) (qtyS (sumU l) (sumQ l)):=num_fix (qty_c 0) rfl rfl (qty_num h1.1 h1.2.1 h1.2.2.1 (by rw [h1.2.2.2.1];omega))
  exact ⟨read_two (t:=84) (c1:=mnyC 0) (c2:=qtyC 0) rfl (by show ¬ katI (fltF 0) wTl<0;rw [flt_katT];decide) (flt_kT 0) rfl rfl rfl f1 f2 (by show (10:Int)+20<=200;decide) hr,line_facts (t:=84) (c1:=mnyC 0) (c2:=qtyC 0) rfl (by decide) (flt_kT 0) rfl rfl f1 f2 (by show (10:Int)+20<=60;decide)⟩
noncomputable def rowsT (rs:List RowP):List UInt8:=rs.flatMap fun r=>lineL (fltF 0) r++[10]
theorem rowsT_take {rs:List RowP} {j:Nat} (h:j<rs.length):rowsT (rs.take (j+1))=rowsT (rs.take j)++(lineL (fltF 0) (rA rs j)++[10]):=by
 unfold rowsT
 rw [take_rA h,List.flatMap_append]
 simp
theorem rowsT_len {l:List Lin} (h:LinsK l):∀ j,j<=(allRs l).length->(rowsT ((allRs l).take j)).length<=62*j:=by
 intro j
 induction j with
 | zero=>intro _;simp [rowsT]
 | succ j ih=>
  intro hj
  have h1:=(all_read h (show j<(allRs l).length from hj)).2.1
  have h2:=ih (by omega)
  rw [rowsT_take hj]
  simp only [List.length_append,List.length_singleton]
  omega
structure OLn where
 art:ByteArray
 u:Int
 p:Int
structure OLnK (x:OLn):Prop where
 art:nameB x.art.data.toList=true
 pos:0<x.u
 pl:0<=x.p/\x.p<=3
 full:scaled x.u x.p 3<=1000000000000
def linO (x:OLn):Lin:=⟨x.art,(leastF x.u x.p.toNat).1,(leastF x.u x.p.toNat).2.toNat⟩
theorem scl_more {u p:Int} {q a:Nat} (hp:0<=p) (h:p<=q) (hq:q<=a):scaled u p a=scaled u p q*((10 ^ (a-q):Nat):Int):=by
 unfold scaled
 rw [Int.mul_assoc]
 congr 1
 rw [show a-p.toNat=(q-p.toNat)+(a-q) by omega,Nat.pow_add]
 push_cast
 rfl
theorem lin_scl {x:OLn} (hp:0<=x.p/\x.p<=3) {a:Nat} (ha:3<=a):scaled (linO x).u ((linO x).q:Int) a=scaled x.u x.p a:=by
 have h1:=least_le x.u x.p.toNat
 have e:(((linO x).q:Nat):Int)=(leastF x.u x.p.toNat).2:=by unfold linO;simp only;omega
 have h2:=least_scale x.u x.p.toNat
 rw [e]
 show scaled (leastF x.u x.p.toNat).1 (leastF x.u x.p.toNat).2 a=_
 rw [scl_more (q:=x.p.toNat) (by omega) (by omega) (by omega),h2]
 unfold scaled
 rfl
theorem lin_ok {x:OLn} (h:OLnK x):LinK (linO x):=by
 have h1:=least_le x.u x.p.toNat
 have hp:=h.pl
 have e:(((linO x).q:Nat):Int)=(leastF x.u x.p.toNat).2:=by unfold linO;simp only;omega
 refine ⟨h.art,?_,least_pos h.pos _,by have:=e;omega,by rw [lin_scl hp (Nat.le_refl _)];exact h.full⟩
 rw [e]
 exact least_lst _ _
def decsO (l:List OLn):List (Int×Int):=l.map fun x=>(x.u,x.p)
theorem sumZ_cons (d:Int×Int) (ds:List (Int×Int)) (q:Nat):sumZ (d :: ds) q=scaled d.1 d.2 q+sumZ ds q:=by
 show (d :: ds).foldl (fun z d=>z+scaled d.1 d.2 q) 0=_
 rw [List.foldl_cons,sumZ_from]
 omega
theorem sum_nine:∀ {l:List OLn},(∀ x∈l,OLnK x)->sumZ (decsO l) 9=sumL (l.map linO)*1000000
 | [],_=>by simp [decsO,sumZ,sumL]
 | x :: l,h=>by
  have hx:=h x (List.mem_cons_self ..)
  have ih:=sum_nine (l:=l) fun y hy=>h y (List.mem_cons_of_mem _ hy)
  show sumZ ((x.u,x.p) :: decsO l) 9=(scaled (linO x).u ((linO x).q:Int) 3+sumL (l.map linO))*1000000
  rw [sumZ_cons,ih,lin_scl hx.pl (Nat.le_refl _)]
  have:=scl_more (u:=x.u) (p:=x.p) (q:=3) (a:=9) hx.pl.1 hx.pl.2 (by decide)
  simp only
  rw [this]
  show _*((1000000:Nat):Int)+_=_
  omega
theorem exact_sum {l:List OLn} (h:∀ x∈l,OLnK x) (h1:l.length<=500):∃ E p:Int,sumR (decsO l)=(E,p,0)/\decB E p=true/\scaled E p 9=sumL (l.map linO)*1000000:=by
 have hall:allB (decsO l)=true:=List.all_eq_true.2 fun d hd=>by
  unfold decsO at hd
  obtain ⟨x,hx,rfl⟩:=List.mem_map.1 hd
  have hk:=h x hx
  have hp:=hk.pl
  have h3:x.u<=scaled x.u x.p 3:=by
   have:=scl_ge (u:=x.u) (q:=x.p.toNat) (a:=3) hk.pos
   rwa [show ((x.p.toNat:Nat):Int)=x.p by omega] at this
  have:=hk.full
  have:=hk.pos
  exact decB_mk ⟨by show -1000000000000000<=x.u;omega,by show x.u<=1000000000000000;omega,by show 0<=x.p;omega,by show x.p<=9;omega⟩
 have hlen:(decsO l).length=l.length:=by unfold decsO;simp
 have hmb:=maxP_bound hall (decsO l).length (Nat.le_refl _)
 rw [List.take_length] at hmb
 have hge:∀ d∈decsO l,0<=d.2/\d.2<=((maxP (decsO l)).toNat:Int):=fun d hd=>by
  obtain ⟨j,hj,rfl⟩:=List.getElem_of_mem hd
  have h2:=maxP_ge (ds:=decsO l) (decsO l).length j hj (Nat.le_refl _)
  rw [List.take_length] at h2
  have h3:=decB_out (List.all_eq_true.1 hall _ (List.getElem_mem hj))
  rw [dec_get hj] at h3 ⊢
  simp only at h3 ⊢
  omega
 have hm:=sumZ_more (decsO l) (maxP (decsO l)).toNat (by omega) hge
 rw [sum_nine h] at hm
 have hb:=sumL_bd (l.map linO) (fun y hy=>by obtain ⟨x,hx,rfl⟩:=List.mem_map.1 hy;exact lin_ok (h x hx))
 rw [List.length_map] at hb
 have hp3:maxP (decsO l)<=3:=by
  have key:∀ k,k<=(decsO l).length->maxP ((decsO l).take k)<=3:=by
   intro k
   induction k with
   | zero=>intro _;simp [maxP]
   | succ k ih=>
    intro hk
    rw [maxP_step hk]
    have h4:dP (decsO l) k<=3:=by
     have h5:(decsO l)[k]∈decsO l:=List.getElem_mem hk
     have e:=dec_get (show k<(decsO l).length from hk)
     rw [e] at h5
     unfold decsO at h5
     obtain ⟨x,hx,e2⟩:=List.mem_map.1 h5
     have:=(h x hx).pl
     injection e2 with e3 e4
     unfold decsO
     omega
    have:=ih (by omega)
    omega
  have:=key _ (Nat.le_refl _)
  rwa [List.take_length] at this
 have hbig:(10 ^ 6:Nat)<=10 ^ (9-(maxP (decsO l)).toNat):=Nat.pow_le_pow_right (by decide) (by omega)
 have hE:(sumZ (decsO l) (maxP (decsO l)).toNat).natAbs<=1000000000000000:=by
  generalize 10 ^ (9-(maxP (decsO l)).toNat)=P at hm hbig
  generalize sumZ (decsO l) (maxP (decsO l)).toNat=Z at hm
  have:(Z.natAbs:Int)*1000000<=Z.natAbs*(P:Int):=Int.mul_le_mul_of_nonneg_left (by omega) (by omega)
  have e:(Z.natAbs:Int)*(P:Int)=(sumL (l.map linO)*1000000).natAbs:=by
   rw [<- hm,Int.natAbs_mul]
   push_cast
   rfl
  omega
 refine ⟨sumZ (decsO l) (maxP (decsO l)).toNat,maxP (decsO l),?_,?_,?_⟩
 ·unfold sumR
  rw [if_neg (by rw [hlen];omega),hall,if_pos rfl]
  unfold made
  rw [if_pos hE]
 ·exact decB_mk (by omega)
 ·unfold scaled
  exact hm
def RetFo (P:Prop) (w:World) (e:Ending) (w':World):Prop:=∃ f,e=.returned (.int .i64 f)/\(f=0->P)/\Below w.heap.size w w'
theorem RetFo.no {P:Prop} {w w':World} {f:Int} (hf:f≠0) (hb:Below w.heap.size w w'):RetFo P w (.returned (.int .i64 f)) w':=⟨f,rfl,fun h=>absurd h hf,hb⟩
theorem RetFo.yes {P:Prop} {w w':World} {f:Int} (h:P) (hb:Below w.heap.size w w'):RetFo P w (.returned (.int .i64 f)) w':=⟨f,rfl,fun _=>h,hb⟩
set_option maxHeartbeats 1000000 in
set_option maxRecDepth 100000 in
theorem opow_c (n:Nat) (w:World) (hn:n<=9):Calls Tryz.prog 142 #[.int .i64 (n:Int)] w fun e w'=>w=w'/\e=.returned (.int .i64 ((10 ^ n:Nat):Int)):=by
 go_enter Tryz.func142,Tryz.ntmps142
 go_wp2
 go_loopw [5,3] (fun i o wr=>∃ (k P:Nat),k<=n/\i=.int .i64 (k:Int)/\o=.int .i64 (P:Int)/\Hid (P=10 ^ k)/\w=wr) (fun i _ _=>n-(intOf i).toNat)
 case atStart=>exact ⟨0,1,Nat.zero_le _,rfl,rfl,Lib.hid rfl,rfl⟩
 case round=>
  obtain ⟨k,P,hk,rfl,rfl,HP,rfl⟩:=hrel
  have hP:P<=1000000000:=by
   rw [HP.out]
   exact Nat.pow_le_pow_right (n:=10) (j:=9) (by decide) (by omega)
  rcases Nat.lt_or_ge k n with hlt | hge
  ·have hw:IntKind.i64.wrap ((P:Int)*10)=(P:Int)*10:=IntWalk.i64_in _ (by omega)
   go_wp2
   go_roundw
   case rel=>exact ⟨k+1,P*10,by omega,by go_num,by first | rfl | (congr 1;push_cast;rfl) | simp,Lib.hid (by rw [HP.out,Nat.pow_succ]),by trivial⟩
   case measure=>simp [intOf];omega
  ·obtain rfl:k=n:=by omega
   have HE:=HP.out
   subst HE
   go_wp2
   go_ret
   exact ⟨rfl,rfl⟩
def WithinO (u p pl:Int):Prop:=p<=pl/\0<=u/\u<=1000000000*((10 ^ p.toNat:Nat):Int)
set_option maxHeartbeats 2000000 in
set_option maxRecDepth 100000 in
theorem within_o (u p pl:Int) (w:World) (hd:decB u p=true):Calls Tryz.prog 109 #[.agg #[.int .i64 u,.int .i64 p],.int .i64 pl,.int .i64 1000000000] w fun e w'=>∃ b:Bool,e=.returned (.bool b)/\(b=true->WithinO u p pl)/\Below w.heap.size w w':=by
 have hb:=decB_out hd
 have hX:=heap_new w (.cells #[.int .i64 u,.int .i64 p] 31) rfl
 have hB:=Lib.hid (show Below w.heap.size w (w.alloc (.cells #[.int .i64 u,.int .i64 p] 31)) from (Below.refl _ _).alloc (Nat.le_refl _) _)
 obtain ⟨g0,g1,-,-,-⟩:=box2 hX
 by_cases h1:p<=pl
 case neg=>
  have hdf:=decide_eq_false h1
  clear hd hb hX
  go_enter Tryz.func109,Tryz.ntmps109
  go_wp2
  go_quiet (fail)
  go_wp2
  go_ret
  exact ⟨false,rfl,(fun h=>by cases h),below_drewN hB.out _⟩
 by_cases h2:0<=u
 case neg=>
  have hdf:=decide_eq_false h2
  clear hd hb hX
  go_enter Tryz.func109,Tryz.ntmps109
  go_wp2
  go_quiet (fail)
  go_wp2
  go_ret
  exact ⟨false,rfl,(fun h=>by cases h),below_drewN hB.out _⟩
 obtain ⟨n,rfl⟩:∃ n:Nat,p=n:=⟨p.toNat,by omega⟩
 have HPW:=Lib.hid (show ∀ w,Calls Tryz.prog 142 #[.int .i64 (n:Int)] w fun e w'=>e=.returned (.int .i64 ((10 ^ n:Nat):Int))/\w'=w from fun w=>(opow_c n w (by omega)).mono fun e w' h=>⟨h.2,h.1.symm⟩)
 obtain ⟨P,hP⟩:∃ P,10 ^ n=P:=⟨_,rfl⟩
 have hP9:P<=1000000000:=by rw [<- hP];exact Nat.pow_le_pow_right (n:=10) (j:=9) (by decide) (by omega)
 rw [hP] at HPW
 have hw:IntKind.i64.wrap (1000000000*(P:Int))=1000000000*(P:Int):=IntWalk.i64_in _ (by omega)
 have hd1:=decide_eq_true h1
 have hd2:=decide_eq_true h2
 by_cases h3:u<=1000000000*(P:Int)
 ·have hd3:=decide_eq_true h3
  have HY:=Lib.hid (show WithinO u (n:Int) pl from ⟨h1,h2,by rw [Int.toNat_natCast,hP];exact h3⟩)
  clear hd hb hX hP
  go_enter Tryz.func109,Tryz.ntmps109
  go_wp2
  go_quiet ((go_at_call 142;exact Calls.quiet_of_same (HPW.out _)))
  go_wp2
  go_ret
  exact ⟨true,rfl,fun _=>HY.out,below_drewN hB.out _⟩
 ·have hd3:=decide_eq_false h3
  clear hd hb hX hP
  go_enter Tryz.func109,Tryz.ntmps109
  go_wp2
  go_quiet ((go_at_call 142;exact Calls.quiet_of_same (HPW.out _)))
  go_wp2
  go_ret
  exact ⟨false,rfl,(fun h=>by cases h),below_drewN hB.out _⟩
def QtyO (u p:Int):Prop:=decB u p=true/\WithinO u p 3/\u≠0
set_option maxHeartbeats 2000000 in
set_option maxRecDepth 100000 in
theorem qtyfault_c (u p:Int) (w:World):Calls Tryz.prog 61 #[.agg #[.int .i64 u,.int .i64 p],.bool false] w (RetFo (QtyO u p) w):=by
 have hX:=heap_new w (.cells #[.int .i64 u,.int .i64 p] 31) rfl
 have hB:=Lib.hid (show Below w.heap.size w (w.alloc (.cells #[.int .i64 u,.int .i64 p] 31)) from (Below.refl _ _).alloc (Nat.le_refl _) _)
 obtain ⟨g0,g1,-,-,-⟩:=box2 hX
 have HX:=Lib.hid hX
 clear hX
 cases hd:decB u p with
 | false=>
  have HC:=Lib.hid (fun w=>chk_bad u p w hd)
  clear hd
  go_enter Tryz.func61,Tryz.ntmps61
  go_wp2_with fail
  refine (HC.out _).mono ?_
  rintro e w1 ⟨rfl,hb1⟩
  go_wp2
  go_ret
  exact RetFo.no (by decide) (below_then hb1 hB.out hB.out.size)
 | true=>
  have HC:=Lib.hid (fun w=>chk_ok u p w hd)
  have HW:=Lib.hid (fun w=>within_o u p 3 w hd)
  have HD:=Lib.hid hd
  clear hd
  go_enter Tryz.func61,Tryz.ntmps61
  go_wp2_with fail
  generalize w.alloc (.cells #[.int .i64 u,.int .i64 p] 31)=w0 at HX hB g0 g1 ⊢
  refine (HC.out _).mono ?_
  rintro e w1 ⟨rfl,hb1⟩
  have hX1:=Lib.hid (heap_below HX.out hb1)
  have hB1:=Lib.hid (below_then hb1 hB.out hB.out.size)
  have hX1':=hX1.out
  obtain ⟨k0,k1,-,-,-⟩:=box2 hX1'
  clear hb1 g0 g1 hX1'
  go_wp2_with fail
  refine (HW.out _).mono ?_
  rintro e w2 ⟨b,rfl,hbW,hb2⟩
  have hX2:=Lib.hid (heap_below hX1.out hb2)
  have hB2:=Lib.hid (below_then hb2 hB1.out hB1.out.size)
  have hX2':=hX2.out
  obtain ⟨j0,j1,-,-,-⟩:=box2 hX2'
  clear hb2 k0 k1 hX2'
  cases b with
  | false=>
   clear hbW
   go_wp2
   go_ret
   exact RetFo.no (by decide) hB2.out
  | true=>
   have HY:=Lib.hid (hbW rfl)
   clear hbW
   by_cases h0:u=0
   ·have h0':(u==0)=true:=by simpa using h0
    clear h0
    go_wp2
    go_ret
    exact RetFo.no (by decide) hB2.out
   ·have h0':(u==0)=false:=by simpa using h0
    have HZ:=Lib.hid h0
    clear h0
    go_wp2
    go_ret
    exact RetFo.yes ⟨HD.out,HY.out,HZ.out⟩ hB2.out
set_option maxHeartbeats 2000000 in
set_option maxRecDepth 100000 in
theorem pricefault_c (u p:Int) (w:World):Calls Tryz.prog 62 #[.agg #[.int .i64 u,.int .i64 p]] w (RetFo True w):=by
 have hX:=heap_new w (.cells #[.int .i64 u,.int .i64 p] 31) rfl
 have hB:=Lib.hid (show Below w.heap.size w (w.alloc (.cells #[.int .i64 u,.int .i64 p] 31)) from (Below.refl _ _).alloc (Nat.le_refl _) _)
 obtain ⟨g0,g1,-,-,-⟩:=box2 hX
 have HX:=Lib.hid hX
 clear hX
 cases hd:decB u p with
 | false=>
  have HC:=Lib.hid (fun w=>chk_bad u p w hd)
  clear hd
  go_enter Tryz.func62,Tryz.ntmps62
  go_wp2_with fail
  refine (HC.out _).mono ?_
  rintro e w1 ⟨rfl,hb1⟩
  go_wp2
  go_ret
  exact RetFo.no (by decide) (below_then hb1 hB.out hB.out.size)
 | true=>
  have HC:=Lib.hid (fun w=>chk_ok u p w hd)
  have HW:=Lib.hid (fun w=>within_o u p 4 w hd)
  clear hd
  go_enter Tryz.func62,Tryz.ntmps62
  go_wp2_with fail
  generalize w.alloc (.cells #[.int .i64 u,.int .i64 p] 31)=w0 at HX hB g0 g1 ⊢
  refine (HC.out _).mono ?_
  rintro e w1 ⟨rfl,hb1⟩
  have hX1:=Lib.hid (heap_below HX.out hb1)
  have hB1:=Lib.hid (below_then hb1 hB.out hB.out.size)
  have hX1':=hX1.out
  obtain ⟨k0,k1,-,-,-⟩:=box2 hX1'
  clear hb1 g0 g1 hX1'
  go_wp2_with fail
  refine (HW.out _).mono ?_
  rintro e w2 ⟨b,rfl,hbW,hb2⟩
  have hB2:=Lib.hid (below_then hb2 hB1.out hB1.out.size)
  clear hb2 hbW
  cases b with
  | false=>
   go_wp2
   go_ret
   exact RetFo.no (by decide) hB2.out
  | true=>
   go_wp2
   go_ret
   exact RetFo.yes trivial hB2.out
end Go.Proofs.YtbfbgappinilmaaGreatDoor
