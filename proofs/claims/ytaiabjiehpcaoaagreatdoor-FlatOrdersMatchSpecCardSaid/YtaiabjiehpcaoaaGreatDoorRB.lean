/- The walk of the reference's numbers: Times. The walk of the reference's numbers: Times. The walk of the reference's numbers: half. Plain facts on rounding. -/
import Derived.Test.YtaiabjiehpcaoaaGreatDoorR3
import Derived.RegionTactic
import Derived.BigRegion
import Derived.Deep.OwnRows
import Derived.Deep.DeepCutAuto
import Derived.Test.YtaiabjiehpcaoaaGreatDoorU1
import Derived.Test.YtaiabjiehpcaoaaGreatDoorE1
import Derived.Deep.RegionWith
-- merged: R4 R5 R6 N1 RB
set_option maxHeartbeats 4000000
set_option maxRecDepth 100000
namespace Go.Proofs.YtaiabjiehpcaoaaGreatDoor
open Go.RowKit Limb
theorem Qbf {w:World} {B:Nat} {E:TypeId} {g N c:Nat} {os:List Nat} (h:w.ownsRow B E 1 (.slice (some ⟨g,0,none⟩) N c) N (digV .i64 os)) {p:Nat} (hp:p<N):w.cell? ⟨g,p,none⟩=some (.int .i64 ((dg os p:Nat):Int)):=by
 have hl:=h.1
 rw [QaD] at hl
 rw [h.cellAt p (by omega)]
 exact Qbn _ (by omega)
theorem QbB {w:World} {B:Nat} {E:TypeId} {g N c:Nat} {os:List Nat} (h:w.ownsRow B E 1 (.slice (some ⟨g,0,none⟩) N c) N (digV .i64 os)) (p:Nat) {X:Int} {x:Nat} (hx:X=(x:Int)) :
  (w.setCell ⟨g,p,none⟩ (.int .i64 X)).ownsRow B E 1 (.slice (some ⟨g,0,none⟩) N c) N (digV .i64 (os.set p x)):=by
 subst hx;rw [digV_set];exact (h.stored p _).1
theorem row_len6 {w:World} {B:Nat} {E:TypeId} {N:Nat} {v:Value} {os:List Nat} (h:w.ownsRow B E 1 v N (digV .i64 os)):os.length=N:=by
 have:=h.1;rw [QaD] at this;omega
theorem Qbi {l:List Nat} {k j d:Nat} (h:j≠k):dg (l.set k d) j=dg l j:=Qb1 h
theorem Qbq {l:List Nat} {k d:Nat} (h:k<l.length):dg (l.set k d) k=d:=getD_set_same h
theorem own_zeros (w:World) (B N:Nat) (hB:B<=w.heap.size) (hN:N<=100000):(w.alloc (.cells (madeCells #[Value.int .i64 0] N) 3)).ownsRow B 3 1 (.slice (some ⟨w.heap.size,0,none⟩) N N) N (digV .i64 (List.replicate N 0)):=by
 have h:=World.ownsRow_lit (base:=B) (e:=3) (size:=1) w (madeCells #[Value.int .i64 0] N) N hB (by unfold maxLen;omega) (by
  have:=congrArg List.length (toList_madeCells_one (.int .i64 0) N)
  rw [Array.length_toList,List.length_replicate] at this
  omega)
 rw [toList_madeCells_one] at h
 have e:digV .i64 (List.replicate N 0)=List.replicate N (Value.int .i64 0):=by simp [digV]
 rw [e]
 exact h
theorem dg_zeros (N p:Nat):dg (List.replicate N 0) p=0:=by
 simp [dg,List.getD_eq_getElem?_getD,List.getElem?_replicate];split<;>rfl
theorem carry_val {os:List Nat} {r:Nat} (hr:r+1<os.length):val B6 ((os.set (r+1) (dg os (r+1)+dg os r/B6)).set r (dg os r%B6))=val B6 os:=by
 have h1:=val_set B6 os (r+1) (dg os (r+1)+dg os r/B6) hr
 have h2:=val_set B6 (os.set (r+1) (dg os (r+1)+dg os r/B6)) r (dg os r%B6) (by rw [List.length_set];omega)
 have e1:os.getD (r+1) 0=dg os (r+1):=rfl
 have e2:(os.set (r+1) (dg os (r+1)+dg os r/B6)).getD r 0=dg os r:=Qb1 (by omega)
 rw [e1] at h1
 rw [e2] at h2
 have h3:B6 ^ (r+1)*(dg os (r+1)+dg os r/B6)=B6 ^ (r+1)*dg os (r+1)+B6 ^ r*(B6*(dg os r/B6)):=by rw [Nat.mul_add,Nat.pow_succ,Nat.mul_assoc (B6 ^ r) B6 (dg os r/B6)]
 have h4:B6 ^ r*dg os r=B6 ^ r*(B6*(dg os r/B6))+B6 ^ r*(dg os r%B6):=by rw [<- Nat.mul_add,Nat.div_add_mod]
 omega
def mulS (ps:List Nat) (r z:Nat):List Nat:=((ps.set r (dg ps r+z)).set (r+1) (dg ps (r+1)+(dg ps r+z)/B6)).set r ((dg ps r+z)%B6)
theorem mulS_val {ps:List Nat} {r z:Nat} (hr:r+1<ps.length):val B6 (mulS ps r z)=val B6 ps+B6 ^ r*z:=by
 have h1:=val_set B6 ps r (dg ps r+z) (by omega)
 have h2:=carry_val (os:=ps.set r (dg ps r+z)) (r:=r) (by rw [List.length_set];exact hr)
 rw [Qbq (by omega),Qbi (by omega)] at h2
 unfold mulS
 rw [h2]
 have e1:ps.getD r 0=dg ps r:=rfl
 rw [e1,Nat.mul_add] at h1
 omega
theorem mulS_at {ps:List Nat} {r z p:Nat} (hr:r+1<ps.length):dg (mulS ps r z) p=if p=r then (dg ps r+z)%B6 else if p=r+1 then dg ps (r+1)+(dg ps r+z)/B6 else dg ps p:=by
 unfold mulS
 by_cases h1:p=r
 ·subst h1;rw [if_pos rfl,Qbq (by simp;omega)]
 ·rw [if_neg h1,Qbi h1]
  by_cases h2:p=r+1
  ·subst h2;rw [if_pos rfl,Qbq (by simp;omega)]
  ·rw [if_neg h2,Qbi h2,Qbi h1]
def Mid (ps:List Nat) (j k q:Nat):Prop :=
 (∀ p,p≠j+q->dg ps p<=1000000)/\dg ps (j+q)<=2000000/\(∀ p,j+k<=p->(q<k∨p≠j+k)->dg ps p=0)/\(q=k->dg ps (j+k)<=1000000)
theorem Mid.step {ps:List Nat} {j k q x y:Nat} (h:Mid ps j k q) (hq:q<k) (hl:j+q+1<ps.length) (hx:x<1000000) (hy:y<1000000):Mid (mulS ps (j+q) (x*y)) j k (q+1):=by
 obtain ⟨h1,h2,h3,h4⟩:=h
 have hxy:x*y<=999999*999999:=Nat.mul_le_mul (by omega) (by omega)
 have hc:(dg ps (j+q)+x*y)/B6<=1000000:=by
  have:dg ps (j+q)+x*y<=1000000*1000000+1:=by omega
  unfold B6;omega
 have hm:(dg ps (j+q)+x*y)%B6<1000000:=Nat.mod_lt _ (by decide)
 refine ⟨fun p hp=>?_,?_,fun p hp hp2=>?_,fun e=>?_⟩
 ·rw [mulS_at hl]
  split
  ·omega
  ·rw [if_neg (by omega)]
   exact h1 p (by omega)
 ·rw [mulS_at hl,if_neg (by omega),if_pos (by omega)]
  have:=h1 (j+q+1) (by omega)
  omega
 ·rw [mulS_at hl,if_neg (by omega),if_neg (by omega)]
  exact h3 p hp (by omega)
 ·rw [mulS_at hl,if_neg (by omega),if_pos (by omega)]
  have:=h3 (j+q+1) (by omega) (by omega)
  omega
def Btw (os:List Nat) (j k:Nat):Prop:=(∀ p,dg os p<=1000000)/\(∀ p,j+k<=p->dg os p=0)
theorem Btw.mid {os:List Nat} {j k:Nat} (h:Btw os j k):Mid os j k 0 :=
 ⟨fun p _=>h.1 p,by have:=h.1 (j+0);omega,fun p hp _=>h.2 p hp,fun _=>h.1 _⟩
theorem Mid.btw {ps:List Nat} {j k:Nat} (h:Mid ps j k k):Btw ps (j+1) k :=
 ⟨fun p=>by
  by_cases e:p=j+k
  ·subst e;exact h.2.2.2 rfl
  ·exact h.1 p e,fun p hp=>h.2.2.1 p (by omega) (by omega)⟩
theorem times_row {l m ps:List Nat} {j q:Nat} (hl:j+q+1<ps.length) (hval:val B6 ps=val B6 (l.take j)*val B6 m+B6 ^ j*(dg l j*val B6 (m.take q))) :
  val B6 (mulS ps (j+q) (dg l j*dg m q))=val B6 (l.take j)*val B6 m+B6 ^ j*(dg l j*val B6 (m.take (q+1))):=by
 rw [mulS_val hl,hval,Qat,Nat.mul_add,Nat.mul_add,Nat.pow_add]
 have e2:B6 ^ j*B6 ^ q*(dg l j*dg m q)=B6 ^ j*(dg l j*(B6 ^ q*m.getD q 0)):=by
  show _=B6 ^ j*(dg l j*(B6 ^ q*dg m q))
  rw [Nat.mul_assoc,Nat.mul_left_comm (B6 ^ q)]
 rw [e2,Nat.add_assoc]
theorem times_next {l m ps:List Nat} {j k:Nat} (hk:m.length=k) (hval:val B6 ps=val B6 (l.take j)*val B6 m+B6 ^ j*(dg l j*val B6 (m.take k))) :
  val B6 ps=val B6 (l.take (j+1))*val B6 m:=by
 rw [hval,show m.take k=m from List.take_of_length_le (by omega),Qat,Nat.add_mul,Nat.mul_assoc]
 rfl
def Fin_ (os:List Nat) (i:Nat):Prop:=(∀ p,p<i->dg os p<1000000)/\(∀ p,i<p->dg os p<=1000000)/\dg os i<=2000000
def carS (os:List Nat) (r:Nat):List Nat:=(os.set (r+1) (dg os (r+1)+dg os r/B6)).set r (dg os r%B6)
theorem Fin_.step {os:List Nat} {i:Nat} (h:Fin_ os i) (hl:i+1<os.length):Fin_ (carS os i) (i+1):=by
 obtain ⟨h1,h2,h3⟩:=h
 have hat:∀ p,dg (carS os i) p=if p=i then dg os i%B6 else if p=i+1 then dg os (i+1)+dg os i/B6 else dg os p:=by
  intro p
  unfold carS
  by_cases e1:p=i
  ·subst e1;rw [if_pos rfl,Qbq (by simp;omega)]
  ·rw [if_neg e1,Qbi e1]
   by_cases e2:p=i+1
   ·subst e2;rw [if_pos rfl,Qbq (by omega)]
   ·rw [if_neg e2,Qbi e2]
 have hm:dg os i%B6<1000000:=Nat.mod_lt _ (by decide)
 have hc:dg os i/B6<=2:=by unfold B6;omega
 refine ⟨fun p hp=>?_,fun p hp=>?_,?_⟩
 ·rw [hat]
  split
  ·exact hm
  ·rw [if_neg (by omega)];exact h1 p (by omega)
 ·rw [hat,if_neg (by omega),if_neg (by omega)];exact h2 p (by omega)
 ·rw [hat,if_neg (by omega),if_pos rfl]
  have:=h2 (i+1) (by omega)
  omega
theorem Fin_.digs {os:List Nat} {N:Nat} (h:Fin_ os N) (hl:os.length=N+1) (hv:val B6 os<B6 ^ N):Digs B6 os:=by
 have hz:dg os N=0:=by
  have h1:=val_split B6 os N (by omega)
  have h2:os.drop N=[dg os N]:=by
   have h3:(os.drop N).length=1:=by rw [List.length_drop];omega
   have h4:∃ a,os.drop N=[a]:=by
    match os.drop N,h3 with
    | [a],_=>exact ⟨a,rfl⟩
   obtain ⟨a,ha⟩:=h4
   have h5:(os.drop N)[0]?=some a:=by rw [ha];rfl
   rw [List.getElem?_drop] at h5
   rw [ha]
   unfold dg
   rw [List.getD_eq_getElem?_getD,show N=N+0 by omega,h5]
   rfl
  rw [h2] at h1
  rcases Nat.eq_zero_or_pos (dg os N) with h3 | h3
  ·exact h3
  ·have h4:B6 ^ N*1<=B6 ^ N*val B6 [dg os N]:=Nat.mul_le_mul_left _ (by simp [val];omega)
   omega
 intro d hd
 obtain ⟨p,hp,rfl⟩:=List.getElem_of_mem hd
 have e:os[p]=dg os p:=by unfold dg;rw [List.getD_eq_getElem?_getD,List.getElem?_eq_getElem hp];rfl
 rw [e]
 rcases Nat.lt_or_ge p N with h1 | h1
 ·exact h.1 p h1
 ·rw [show p=N by omega,hz];decide
theorem sg_mul6 {s t:Bool} {a b:Nat} : sg (!s==t) (a*b)=sg s a*sg t b:=by cases s<;>cases t<;>simp [sg,Int.neg_mul,Int.mul_neg]
theorem times_sg {s t:Bool} {os:List Nat} {kk a b:Nat} (h:trim os=os.take kk) (hv:val B6 os=a*b):sg s a*sg t b=sg ((!s==t)&&decide (0<kk)) (val B6 (trim os)):=by
 rw [<- sg_mul6,Qa4,hv]
 by_cases h0:0<kk
 ·rw [decide_eq_true h0,Bool.and_true]
 ·have h1:val B6 (trim os)=0:=by rw [h,show kk=0 by omega];rfl
  rw [Qa4,hv] at h1
  rw [decide_eq_false h0,Bool.and_false,h1]
  unfold sg
  split<;>simp
theorem Qbp {w:World} {B E G N c n g:Nat} {xs:List Value} {cs:Array Value} {T:TypeId} {f:Nat×Nat} (h:w.ownsRow B E 1 (.slice (some ⟨G,0,none⟩) (N+1) c) n xs) (hO:w.heap[g]?=some (.cells cs T f)) (e:g=G) (hne:E≠T):False:=by
 subst e
 rcases h.2 with ⟨h1,_⟩|⟨g',cap,cur,h1,_,h2,_⟩
 ·cases h1
 ·injection h1 with h1
  injection h1 with h1
  injection h1 with h1
  subst h1
  exact QaJ h2 hO hne rfl
def Made6 (w:World) (N:Nat) (b:Bool) (X Y R:Obj) (v:Value) (wx:World):Prop :=
 ∃ G O:Nat,v=.pointer (some ⟨O,0,none⟩)/\w.heap.size+1+1<G/\w.heap.size+1+1<O/\wx.ownsRow (w.heap.size+1+1+1) 3 1 (.slice (some ⟨G,0,none⟩) N N) N (digV .i64 (List.replicate N 0)) /\
  wx.heap[O]?=some (.cells #[.bool b,.slice (some ⟨G,0,none⟩) N N] 77 (0,0))/\wx.heap[w.heap.size]?=some X/\wx.heap[w.heap.size+1]?=some Y/\wx.heap[w.heap.size+1+1]?=some R/\Below w.heap.size w wx
theorem made6_a {w w1:World} {N:Nat} {b:Bool} {X Y R:Obj} (hz:w1.heap.size=w.heap.size+1+1+1) (hX:w1.heap[w.heap.size]?=some X) (hY:w1.heap[w.heap.size+1]?=some Y) (hR:w1.heap[w.heap.size+1+1]?=some R) (hB:Below w.heap.size w w1) (hN:N<=100000) :
  Made6 w N b X Y R (.pointer (some ⟨w.heap.size+1+1+1+1,0,none⟩)) ((w1.alloc (.cells (madeCells #[Value.int .i64 0] N) 3)).alloc (.cells #[.bool b,.slice (some ⟨w.heap.size+1+1+1,0,none⟩) N N] 77)).drew:=by
 have h:=own_zeros w1 (w.heap.size+1+1+1) N (by omega) hN
 rw [hz] at h
 exact ⟨w.heap.size+1+1+1,w.heap.size+1+1+1+1,rfl,by omega,by omega,h.alloc _,Qac _ _ (by simp;omega),Qad (Qad hX _) _,Qad (Qad hY _) _,Qad (Qad hR _) _,((hB.alloc (by omega) _).alloc (by simp;omega) _).drew⟩
theorem made6_b {w w1:World} {N:Nat} {b:Bool} {X Y R:Obj} (hz:w1.heap.size=w.heap.size+1+1+1) (hX:w1.heap[w.heap.size]?=some X) (hY:w1.heap[w.heap.size+1]?=some Y) (hR:w1.heap[w.heap.size+1+1]?=some R) (hB:Below w.heap.size w w1) (hN:N<=100000) :
  Made6 w N b X Y R (.pointer (some ⟨w.heap.size+1+1+1,0,none⟩)) ((w1.alloc (.cells #[.bool b,.slice (some ⟨w.heap.size+1+1+1+1,0,none⟩) N N] 77)).alloc (.cells (madeCells #[Value.int .i64 0] N) 3)).drew:=by
 have h:=own_zeros (w1.alloc (.cells #[.bool b,.slice (some ⟨w.heap.size+1+1+1+1,0,none⟩) N N] 77)) (w.heap.size+1+1+1) N (by simp;omega) hN
 rw [World.size_alloc,hz] at h
 exact ⟨w.heap.size+1+1+1+1,w.heap.size+1+1+1,rfl,by omega,by omega,h,Qad (Qac _ _ (by omega)) _,Qad (Qad hX _) _,Qad (Qad hY _) _,Qad (Qad hR _) _,((hB.alloc (by omega) _).alloc (by simp;omega) _).drew⟩
theorem timesof_r (w:World) {s t:Bool} {A B:Option Addr} {n c k d:Nat} {x y:Int} (ha:Big .i64 3 B6 w s A n c x) (hb:Big .i64 3 B6 w t B k d y) (sx:Small x) (sy:Small y) :
  Calls Tryz.prog 145 #[.agg #[.bool s,.slice A n c],.agg #[.bool t,.slice B k d]] w (Makes .i64 3 B6 w (x*y)):=by
 obtain ⟨l,hd,hnc,hcm,gl,nl,sl,rfl⟩:=ha
 obtain ⟨m,he,hkd,hdm,gm,nm,sm,rfl⟩:=hb
 have hl:=hd.1
 have hm:=he.1
 have h1:=QaQ nl sx
 have h2:=QaQ nm sy
 have HL:=Hd hl;have HM:=Hd hm
 rw [hl] at h1
 rw [hm] at h2
 clear hl hm
 have hmk:=run_make_row' (P:=Tryz.prog) 75 3 (.int .i64 0) 8 Tryz.underlying75 Tryz.info3 rfl .i64 .i64 (n+k+1) (by omega) (by omega)
 have ec:((n+k+1:Nat):Int)=(n:Int)+(k:Int)+1:=by omega
 rw [ec] at hmk
 clear ec
 go_enter Tryz.func145,Tryz.ntmps145
 go_upto_region 1 with fail
 generalize hw1:((w.alloc (Obj.cells #[Value.bool s,Value.slice A n c] 77)).alloc (Obj.cells #[Value.bool t,Value.slice B k d] 77)).alloc (Obj.cells #[Value.bool false,Value.slice none 0 0] 77)=w1
 obtain ⟨hX,hY,hR,hB⟩:=boxes3 _ _ _ _ _ _ _ _ _ _ w1 hw1
 have hz1:w1.heap.size=w.heap.size+1+1+1:=by rw [<- hw1];simp
 clear hw1
 obtain ⟨x0,x1,x2,x3,x4⟩:=box2 hX
 obtain ⟨y0,y1,y2,y3,y4⟩:=box2 hY
 go_cut [5] (fun v wx=>Made6 w (n+k+1) (!s==t) (.cells #[.bool s,.slice A n c] 77 (0,0)) (.cells #[.bool t,.slice B k d] 77 (0,0)) (.cells #[.bool false,.slice none 0 0] 77 (0,0)) v wx)
 case first=>
  go_region
  all_goals
   go_wp2_with fail
   go_meet
   first
    | exact made6_a hz1 hX hY hR hB (by omega)
    | exact made6_b hz1 hX hY hR hB (by omega)
 case rest=>
  obtain ⟨G,O,rfl,hG,hO1,hown,hO,hX,hY,hR,hB⟩:=hcut
  clear hmk x0 x1 x2 x3 x4 y0 y1 y2 y3 y4 hz1
  obtain ⟨x0,x1,-,-,-⟩:=box2 hX
  obtain ⟨y0,y1,-,-,-⟩:=box2 hY
  go_wp2_with fail
  go_loopw [29] (fun i wr=>∃ (j:Nat) (os:List Nat),j<=n/\i=.int .i64 j/\wr.ownsRow (w.heap.size+1+1+1) 3 1 (.slice (some ⟨G,0,none⟩) (n+k+1) (n+k+1)) (n+k+1) (digV .i64 os)/\Btw os j k/\val B6 os=val B6 (l.take j)*val B6 m /\
   wr.heap[O]?=some (.cells #[.bool (!s==t),.slice (some ⟨G,0,none⟩) (n+k+1) (n+k+1)] 77 (0,0))/\wr.heap[w.heap.size]?=some (.cells #[.bool s,.slice A n c] 77 (0,0))/\wr.heap[w.heap.size+1]?=some (.cells #[.bool t,.slice B k d] 77 (0,0))/\wr.heap[w.heap.size+1+1]?=some (.cells #[.bool false,.slice none 0 0] 77 (0,0))/\Below w.heap.size w wr) (fun i _=>n-(intOf i).toNat)
  case atStart=>exact ⟨0,_,Nat.zero_le _,rfl,hown,⟨fun p=>by rw [dg_zeros];omega,fun p _=>dg_zeros _ _⟩,by rw [val_zeros];simp [val],hO,hX,hY,hR,hB⟩
  case round=>
   clear hown hO hX hY hR hB x0 x1 y0 y1
   obtain ⟨j,os,hj,rfl,hown,hbtw,hval,hO,hX,hY,hR,hB⟩:=hrel
   have HV:=Hd hval;have HT:=Hd hbtw;clear hval hbtw
   obtain ⟨x0,x1,-,-,-⟩:=box2 hX
   obtain ⟨y0,y1,-,-,-⟩:=box2 hY
   rcases Nat.lt_or_ge j n with hjn | hjn
   ·obtain ⟨g,rfl,hg,hc1⟩:=hd.at_ (by omega)
    have hx:=(hB.cell (p:=⟨g,j,none⟩) hg).trans (hc1 j hjn)
    clear hc1
    have b1:dg l j<1000000:=QaU gl (by decide) j
    go_wp2_with fail
    obtain ⟨wo,rfl⟩:∃ wo:World,wo=wr:=⟨_,rfl⟩
    go_loopw [37] (fun i wr=>∃ (q:Nat) (ps:List Nat),q<=k/\i=.int .i64 q/\wr.ownsRow (w.heap.size+1+1+1) 3 1 (.slice (some ⟨G,0,none⟩) (n+k+1) (n+k+1)) (n+k+1) (digV .i64 ps)/\Mid ps j k q/\val B6 ps=val B6 (l.take j)*val B6 m+B6 ^ j*(dg l j*val B6 (m.take q)) /\
     wr.heap[O]?=some (.cells #[.bool (!s==t),.slice (some ⟨G,0,none⟩) (n+k+1) (n+k+1)] 77 (0,0))/\wr.heap[w.heap.size]?=some (.cells #[.bool s,.slice (some ⟨g,0,none⟩) n c] 77 (0,0))/\wr.heap[w.heap.size+1]?=some (.cells #[.bool t,.slice B k d] 77 (0,0))/\wr.heap[w.heap.size+1+1]?=some (.cells #[.bool false,.slice none 0 0] 77 (0,0))/\Below w.heap.size w wr) (fun i _=>k-(intOf i).toNat)
    case atStart=>exact ⟨0,os,Nat.zero_le _,rfl,hown,HT.out.mid,by rw [HV.out];simp [val],hO,hX,hY,hR,hB⟩
    case round=>
     clear hown hO hX hY hR hB x0 x1 y0 y1 hx
     obtain ⟨q,ps,hq,rfl,hown,hmid,hval,hO,hX,hY,hR,hB⟩:=hrel
     have HV:=Hd hval;have HP:=Hd hmid;clear hval hmid
     obtain ⟨o0,o1,-,-,-⟩:=box2 hO
     rcases Nat.lt_or_ge q k with hqk | hqk
     ·obtain ⟨g',rfl,hg',hc1⟩:=he.at_ (by omega)
      have hy:=(hB.cell (p:=⟨g',q,none⟩) hg').trans (hc1 q hqk)
      clear hc1
      have b2:dg m q<1000000:=QaU gm (by decide) q
      have hlen:=row_len6 hown
      have HP2:=Hd (HP.out.step hqk (by omega) b1 b2)
      have HV2:=Hd (times_row (m:=m) (by omega) HV.out)
      have b3:dg ps (j+q)<=2000000:=HP.out.2.1
      have b4:dg ps (j+q+1)<=1000000:=HP.out.1 _ (by omega)
      have hP:((dg l j:Nat):Int)*((dg m q:Nat):Int)<=999998000001:=by
       have:dg l j*dg m q<=999999*999999:=Nat.mul_le_mul (by omega) (by omega)
       rw [<- Int.natCast_mul];omega
      have hP0:(0:Int)<=((dg l j:Nat):Int)*((dg m q:Nat):Int):=by rw [<- Int.natCast_mul];omega
      have hz:=Qbf hown (p:=j+q) (by omega)
      have hz2:=Qbf hown (p:=j+q+1) (by omega)
      have hf:=hown.frozenAt (j+q)
      have hf2:=hown.frozenAt (j+q+1)
      have i1:((j:Int)+(q:Int))<((n+k+1:Nat):Int):=by omega
      have i2:((j:Int)+(q:Int)+1)<((n+k+1:Nat):Int):=by omega
      have HLEN:=Hd hlen;clear hlen
      obtain ⟨T,hT⟩:∃ T,T=dg ps (j+q)+dg l j*dg m q:=⟨_,rfl⟩
      have hTI:((dg ps (j+q):Nat):Int)+((dg l j:Nat):Int)*((dg m q:Nat):Int)=(T:Int):=by rw [hT];simp
      have hTb:T<=1000000000001:=by omega
      have HT2:=Hd hT;have HTI:=Hd hTI
      obtain ⟨V,hV⟩:∃ V,V=dg ps (j+q+1):=⟨_,rfl⟩
      have HVV:=Hd hV
      rw [<- hV] at b4
      clear hT hTI hV
      go_wp2_with fail
      rw [HTI.out]
      have hown2:=QbB hown (j+q) (X:=(T:Int)) rfl
      have hO2:=Qaf hO (p:=⟨G,j+q,none⟩) (u:=.int .i64 (T:Int)) (fun e=>Qbp hown hO e (by decide))
      have hX2:=Qaf hX (p:=⟨G,j+q,none⟩) (by dsimp only;omega) (.int .i64 (T:Int))
      have hY2:=Qaf hY (p:=⟨G,j+q,none⟩) (by dsimp only;omega) (.int .i64 (T:Int))
      have hR2:=Qaf hR (p:=⟨G,j+q,none⟩) (by dsimp only;omega) (.int .i64 (T:Int))
      have hB2:=hB.setCell (p:=⟨G,j+q,none⟩) (by dsimp only;omega) (.int .i64 (T:Int))
      generalize wr.setCell ⟨G,j+q,none⟩ (.int .i64 (T:Int))=w2 at hown2 hO2 hX2 hY2 hR2 hB2 ⊢
      clear hown hO hX hY hR hB hy hz hz2 hf hf2 o0 o1
      have hz:=Qbf hown2 (p:=j+q) (by omega)
      have hz2:=Qbf hown2 (p:=j+q+1) (by omega)
      rw [Qbq (by rw [HLEN.out];omega)] at hz
      rw [Qbi (by omega),<- HVV.out] at hz2
      have hf:=hown2.frozenAt (j+q)
      have hf2:=hown2.frozenAt (j+q+1)
      obtain ⟨o0,o1,-,-,-⟩:=box2 hO2
      go_region
      have hown3:=QbB hown2 (j+q+1) (X:=(V:Int)+(T:Int)/1000000) (x:=V+T/B6) (by unfold B6;omega)
      have hO3:=Qaf hO2 (p:=⟨G,j+q+1,none⟩) (u:=.int .i64 ((V:Int)+(T:Int)/1000000)) (fun e=>Qbp hown2 hO2 e (by decide))
      have hX3:=Qaf hX2 (p:=⟨G,j+q+1,none⟩) (by dsimp only;omega) (.int .i64 ((V:Int)+(T:Int)/1000000))
      have hY3:=Qaf hY2 (p:=⟨G,j+q+1,none⟩) (by dsimp only;omega) (.int .i64 ((V:Int)+(T:Int)/1000000))
      have hR3:=Qaf hR2 (p:=⟨G,j+q+1,none⟩) (by dsimp only;omega) (.int .i64 ((V:Int)+(T:Int)/1000000))
      have hB3:=hB2.setCell (p:=⟨G,j+q+1,none⟩) (by dsimp only;omega) (.int .i64 ((V:Int)+(T:Int)/1000000))
      have hown3:((w2.setCell ⟨G,j+q+1,none⟩ (.int .i64 ((V:Int)+(T:Int)/1000000))).drew).ownsRow (w.heap.size+1+1+1) 3 1 (.slice (some ⟨G,0,none⟩) (n+k+1) (n+k+1)) (n+k+1) (digV .i64 ((ps.set (j+q) T).set (j+q+1) (V+T/B6))):=by exact hown3
      have hO3:((w2.setCell ⟨G,j+q+1,none⟩ (.int .i64 ((V:Int)+(T:Int)/1000000))).drew).heap[O]?=some (.cells #[.bool (!s==t),.slice (some ⟨G,0,none⟩) (n+k+1) (n+k+1)] 77 (0,0)):=by exact hO3
      have hX3:((w2.setCell ⟨G,j+q+1,none⟩ (.int .i64 ((V:Int)+(T:Int)/1000000))).drew).heap[w.heap.size]?=some (.cells #[.bool s,.slice (some ⟨g,0,none⟩) n c] 77 (0,0)):=by exact hX3
      have hY3:((w2.setCell ⟨G,j+q+1,none⟩ (.int .i64 ((V:Int)+(T:Int)/1000000))).drew).heap[w.heap.size+1]?=some (.cells #[.bool t,.slice (some ⟨g',0,none⟩) k d] 77 (0,0)):=by exact hY3
      have hR3:((w2.setCell ⟨G,j+q+1,none⟩ (.int .i64 ((V:Int)+(T:Int)/1000000))).drew).heap[w.heap.size+1+1]?=some (.cells #[.bool false,.slice none 0 0] 77 (0,0)):=by exact hR3
      have hB3:=hB3.drew
      generalize (w2.setCell ⟨G,j+q+1,none⟩ (.int .i64 ((V:Int)+(T:Int)/1000000))).drew=w3 at hown3 hO3 hX3 hY3 hR3 hB3 ⊢
      clear hown2 hO2 hX2 hY2 hR2 hB2 hz hz2 hf hf2 o0 o1
      have hz:=Qbf hown3 (p:=j+q) (by omega)
      rw [Qbi (by omega),Qbq (by rw [HLEN.out];omega)] at hz
      have hf:=hown3.frozenAt (j+q)
      obtain ⟨o0,o1,-,-,-⟩:=box2 hO3
      go_wp2
      go_roundw
      case rel=>
       have hown4:=QbB hown3 (j+q) (X:=(T:Int)%1000000) (x:=T%B6) (by unfold B6;omega)
       have e:((ps.set (j+q) T).set (j+q+1) (V+T/B6)).set (j+q) (T%B6)=mulS ps (j+q) (dg l j*dg m q):=by unfold mulS;rw [<- HT2.out,<- HVV.out]
       rw [e] at hown4
       exact ⟨q+1,_,by omega,by go_num,hown4,HP2.out,HV2.out,Qaf hO3 (fun e=>Qbp hown3 hO3 e (by decide)) _,Qaf hX3 (by dsimp only;omega) _,Qaf hY3 (by dsimp only;omega) _,Qaf hR3 (by dsimp only;omega) _,hB3.setCell (by dsimp only;omega) _⟩
      case measure=>simp [intOf];omega
     ·obtain rfl:q=k:=by omega
      go_wp2
      go_roundw
      case rel=>exact ⟨j+1,ps,by omega,by go_num,hown,HP.out.btw,times_next HM.out HV.out,hO,hX,hY,hR,hB⟩
      case measure=>simp [intOf];omega
   ·obtain rfl:j=n:=by omega
    have hfin0:Fin_ os 0:=⟨fun p hp=>by omega,fun p _=>HT.out.1 p,by have:=HT.out.1 0;omega⟩
    have HF:=Hd hfin0;clear hfin0
    have hval0:val B6 os=val B6 l*val B6 m:=by rw [HV.out,show l.take j=l from List.take_of_length_le (by rw [HL.out];exact Nat.le_refl _)]
    have HV0:=Hd hval0;clear hval0
    obtain ⟨o0,o1,-,-,-⟩:=box2 hO
    go_wp2_with fail
    obtain ⟨wo,rfl⟩:∃ wo:World,wo=wr:=⟨_,rfl⟩
    go_loopw [87] (fun i wr=>∃ (q:Nat) (ps:List Nat),q<=j+k/\i=.int .i64 q/\wr.ownsRow (w.heap.size+1+1+1) 3 1 (.slice (some ⟨G,0,none⟩) (j+k+1) (j+k+1)) (j+k+1) (digV .i64 ps)/\Hid (Fin_ ps q)/\Hid (val B6 ps=val B6 l*val B6 m) /\
     wr.heap[O]?=some (.cells #[.bool (!s==t),.slice (some ⟨G,0,none⟩) (j+k+1) (j+k+1)] 77 (0,0))/\wr.heap[w.heap.size+1+1]?=some (.cells #[.bool false,.slice none 0 0] 77 (0,0))/\Below w.heap.size w wr) (fun i _=>j+k-(intOf i).toNat)
    case atStart=>exact ⟨0,os,Nat.zero_le _,rfl,hown,HF,HV0,hO,hR,hB⟩
    case round=>
     clear hown hO hX hY hR hB x0 x1 y0 y1 o0 o1
     obtain ⟨q,ps,hq,rfl,hown,HP,HVP,hO,hR,hB⟩:=hrel
     obtain ⟨o0,o1,-,-,-⟩:=box2 hO
     have hlen:=row_len6 hown
     have HLEN:=Hd hlen
     rcases Nat.lt_or_ge q (j+k) with hqk | hqk
     ·have HP2:=Hd (HP.out.step (by omega))
      have HV2:=Hd ((carry_val (os:=ps) (r:=q) (by omega)).trans HVP.out)
      have b3:dg ps q<=2000000:=HP.out.2.2
      have b4:dg ps (q+1)<=1000000:=HP.out.2.1 _ (by omega)
      obtain ⟨T,hT⟩:∃ T,T=dg ps q:=⟨_,rfl⟩
      obtain ⟨V,hV⟩:∃ V,V=dg ps (q+1):=⟨_,rfl⟩
      have hz:=Qbf hown (p:=q) (by omega)
      have hz2:=Qbf hown (p:=q+1) (by omega)
      rw [<- hT] at b3 hz
      rw [<- hV] at b4 hz2
      have HT2:=Hd hT;have HVV:=Hd hV
      clear hT hV hlen
      have hf:=hown.frozenAt q
      have hf2:=hown.frozenAt (q+1)
      have i1:(q:Int)<((j+k+1:Nat):Int):=by omega
      have i2:((q:Int)+1)<((j+k+1:Nat):Int):=by omega
      have i3:(q:Int)<(j:Int)+(k:Int):=by omega
      go_wp2_with fail
      go_region
      have hown3:((wr.setCell ⟨G,q+1,none⟩ (.int .i64 ((V:Int)+(T:Int)/1000000))).drew).ownsRow (w.heap.size+1+1+1) 3 1 (.slice (some ⟨G,0,none⟩) (j+k+1) (j+k+1)) (j+k+1) (digV .i64 (ps.set (q+1) (V+T/B6))):=by exact QbB hown (q+1) (X:=(V:Int)+(T:Int)/1000000) (x:=V+T/B6) (by unfold B6;omega)
      have hO3:((wr.setCell ⟨G,q+1,none⟩ (.int .i64 ((V:Int)+(T:Int)/1000000))).drew).heap[O]?=some (.cells #[.bool (!s==t),.slice (some ⟨G,0,none⟩) (j+k+1) (j+k+1)] 77 (0,0)):=by exact Qaf hO (p:=⟨G,q+1,none⟩) (u:=.int .i64 ((V:Int)+(T:Int)/1000000)) (fun e=>Qbp hown hO e (by decide))
      have hR3:((wr.setCell ⟨G,q+1,none⟩ (.int .i64 ((V:Int)+(T:Int)/1000000))).drew).heap[w.heap.size+1+1]?=some (.cells #[.bool false,.slice none 0 0] 77 (0,0)):=by exact Qaf hR (p:=⟨G,q+1,none⟩) (by dsimp only;omega) (.int .i64 ((V:Int)+(T:Int)/1000000))
      have hB3:=(hB.setCell (p:=⟨G,q+1,none⟩) (by dsimp only;omega) (.int .i64 ((V:Int)+(T:Int)/1000000))).drew
      generalize (wr.setCell ⟨G,q+1,none⟩ (.int .i64 ((V:Int)+(T:Int)/1000000))).drew=w3 at hown3 hO3 hR3 hB3 ⊢
      clear hown hO hR hB hz hz2 hf hf2 o0 o1
      have hz:=Qbf hown3 (p:=q) (by omega)
      rw [Qbi (by omega),<- HT2.out] at hz
      have hf:=hown3.frozenAt q
      obtain ⟨o0,o1,-,-,-⟩:=box2 hO3
      go_wp2
      go_roundw
      case rel=>
       have hown4:=QbB hown3 q (X:=(T:Int)%1000000) (x:=T%B6) (by unfold B6;omega)
       have e:(ps.set (q+1) (V+T/B6)).set q (T%B6)=carS ps q:=by unfold carS;rw [<- HT2.out,<- HVV.out]
       rw [e] at hown4
       exact ⟨q+1,_,by omega,by go_num,hown4,HP2,HV2,Qaf hO3 (fun e=>Qbp hown3 hO3 e (by decide)) _,Qaf hR3 (by dsimp only;omega) _,hB3.setCell (by dsimp only;omega) _⟩
      case measure=>simp [intOf];omega
     ·obtain rfl:q=j+k:=by omega
      have hlt:val B6 ps<B6 ^ (j+k):=by
       rw [HVP.out,Nat.pow_add]
       have h1:=val_lt gl
       have h2:=val_lt gm
       rw [HL.out] at h1
       rw [HM.out] at h2
       exact Nat.mul_lt_mul'' h1 h2
      have gos:=HP.out.digs hlen hlt
      clear hlt hlen
      go_wp2_with fail
      refine (Qb4 ps (!s==t) _ (j+k+1) (j+k+1) _ (Dig.of_own hown) (Qal hown).1 (Qal hown).2).mono ?_
      rintro e w2 ⟨hb2,kk,hkk,htk,rfl⟩
      have hR2:=Qaa hR hb2
      obtain ⟨g0,g1,g2,g3,g4⟩:=box2 hR2
      go_wp2
      have hd0:=(Dig.of_own hown).below hb2
      refine bodyPost_ret (v:=.agg #[.bool ((!s==t)&&decide (0<kk)),.slice (some ⟨G,0,none⟩) kk (j+k+1)]) (by simp [results,Tryz.results145,go_sem,g0,g1]) rfl ⟨_,_,_,_,rfl,Big.box2 (K:=.i64) ⟨trim ps,htk ▸ hd0.take hkk,by omega,(Qal hown).2,Qa3 gos,Qa2 _,trim_ne htk HLEN.out,times_sg htk HVP.out⟩ hR2 (by decide) _ _,((Qab hb2 hB hB.size).setCell (by dsimp only;omega) _).setCell (by dsimp only;omega) _⟩
theorem drop_dg {l:List Nat} {j:Nat} (h:j<l.length):l.drop j=dg l j :: l.drop (j+1):=by
 rw [List.drop_eq_getElem_cons h]
 congr 1
 unfold dg
 rw [List.getD_eq_getElem?_getD,List.getElem?_eq_getElem h]
 rfl
theorem half_rel {l os:List Nat} {j r:Nat} (hl:j<l.length) (ho:j<os.length) (h:val B6 (l.drop (j+1))=2*val B6 (os.drop (j+1))+r) (gl:Digs B6 l) (hr:r<=1) :
  (r*1000000+dg l j)/2<B6/\(r*1000000+dg l j)%2<=1/\val B6 (l.drop j)=2*val B6 ((os.set j ((r*1000000+dg l j)/2)).drop j)+(r*1000000+dg l j)%2:=by
 have b1:=QaU gl (by decide) j
 unfold B6 at b1
 refine ⟨by unfold B6;omega,by omega,?_⟩
 rw [drop_dg hl,drop_dg (l:=os.set j _) (by rw [List.length_set];exact ho),Qbq ho,List.drop_set_of_lt (by omega),Qba,Qba,h]
 generalize val B6 (os.drop (j+1))=v
 unfold B6
 omega
def HalfEnd (z:Int) (w:World) (e:Ending) (w':World):Prop :=
 ∃ s A n c,e=.returned (.tuple #[.agg #[.bool s,.slice A n c],.int .i64 (z%2)])/\Big .i64 3 B6 w' s A n c (z/2)/\(∀ a,A=some a->w.heap.size<a.block/\a.block<w'.heap.size)/\Below w.heap.size w w'
theorem fresh_half {H N g:Nat} (h:H<g/\g<N):∀ a,some (⟨g,0,none⟩:Addr)=some a->H<a.block/\a.block<N:=by
 intro a e
 injection e with e
 subst e
 exact h
theorem half_r (w:World) {s:Bool} {A:Option Addr} {n c:Nat} {z:Int} (ha:Big .i64 3 B6 w s A n c z) (sz:Small z) (hz:0<=z) :
  Calls Tryz.prog 147 #[.agg #[.bool s,.slice A n c]] w (HalfEnd z w):=by
 obtain ⟨l,hd,hnc,hcm,gl,nl,sl,rfl⟩:=ha
 have hl:=hd.1
 have h1:=QaQ nl sz
 have HL:=Hd hl
 rw [hl] at h1
 have hsv:sg s (val B6 l)=(val B6 l:Int):=by unfold sg at hz ⊢;split<;>simp_all
 rw [hsv]
 clear hl hsv hz sz
 have hmk:=run_make_row' (P:=Tryz.prog) 75 3 (.int .i64 0) 8 Tryz.underlying75 Tryz.info3 rfl .i64 .i64 n (by omega) (by omega)
 go_enter Tryz.func147,Tryz.ntmps147
 go_wp2_with fail
 generalize hw4:(((w.alloc (Obj.cells #[Value.bool s,Value.slice A n c] 77)).alloc (Obj.cells #[Value.bool false,Value.slice none 0 0] 77)).alloc (Obj.cells (madeCells #[Value.int IntKind.i64 0] n) 3)).alloc (Obj.cells #[Value.bool false,Value.slice (some { block:=w.heap.size+1+1,off:=0 }) n n] 77)=w4
 have hX:w4.heap[w.heap.size]?=some (.cells #[.bool s,.slice A n c] 77 (0,0)):=by rw [<- hw4];exact Qad (Qad (Qad (Qac _ _ rfl) _) _) _
 have hR:w4.heap[w.heap.size+1]?=some (.cells #[.bool false,.slice none 0 0] 77 (0,0)):=by rw [<- hw4];exact Qad (Qad (Qac _ _ (by simp)) _) _
 have hO:w4.heap[w.heap.size+1+1+1]?=some (.cells #[.bool false,.slice (some ⟨w.heap.size+1+1,0,none⟩) n n] 77 (0,0)):=by rw [<- hw4];exact Qac _ _ (by simp)
 have hown:w4.ownsRow (w.heap.size+1+1) 3 1 (.slice (some ⟨w.heap.size+1+1,0,none⟩) n n) n (digV .i64 (List.replicate n 0)):=by
  rw [<- hw4]
  have h:=own_zeros ((w.alloc (Obj.cells #[Value.bool s,Value.slice A n c] 77)).alloc (Obj.cells #[Value.bool false,Value.slice none 0 0] 77)) (w.heap.size+1+1) n (by simp) (by omega)
  simp only [World.size_alloc] at h
  exact h.alloc _
 have hB:Below w.heap.size w w4:=by rw [<- hw4];go_grown
 clear hw4 hmk
 go_loopw [5,6] (fun rv iv wr=>∃ (j r:Nat) (os:List Nat),j<=n/\rv=.int .i64 r/\iv=.int .i64 ((j:Int)-1)/\r<=1/\wr.ownsRow (w.heap.size+1+1) 3 1 (.slice (some ⟨w.heap.size+1+1,0,none⟩) n n) n (digV .i64 os)/\Digs B6 os/\val B6 (l.drop j)=2*val B6 (os.drop j)+r /\
   wr.heap[w.heap.size]?=some (.cells #[.bool s,.slice A n c] 77 (0,0))/\wr.heap[w.heap.size+1]?=some (.cells #[.bool false,.slice none 0 0] 77 (0,0))/\wr.heap[w.heap.size+1+1+1]?=some (.cells #[.bool false,.slice (some ⟨w.heap.size+1+1,0,none⟩) n n] 77 (0,0))/\Below w.heap.size w wr) (fun _ iv _=>(intOf iv+1).toNat)
 case atStart=>exact ⟨n,0,_,Nat.le_refl _,rfl,rfl,by omega,hown,digs_zeros (by decide) _,by rw [List.drop_of_length_le (by rw [HL.out];exact Nat.le_refl _),List.drop_of_length_le (by simp)];rfl,hX,hR,hO,hB⟩
 case round=>
  clear hown hX hR hO hB w4
  obtain ⟨j,r,os,hj,rfl,rfl,hr,hown,gos,hval,hX,hR,hO,hB⟩:=hrel
  have HV:=Hd hval;clear hval
  obtain ⟨x0,x1,-,-,-⟩:=box2 hX
  obtain ⟨o0,o1,-,-,-⟩:=box2 hO
  have hz:=hB.size
  rcases j with _ | j
  ·go_wp2_with fail
   refine (Qb4 os false _ n n _ (Dig.of_own hown) (Qal hown).1 (Qal hown).2).mono ?_
   rintro e w2 ⟨hb2,kk,hkk,htk,rfl⟩
   have hR2:=Qaa hR hb2
   obtain ⟨g0,g1,g2,g3,g4⟩:=box2 hR2
   go_wp2
   have hd0:=(Dig.of_own hown).below hb2
   have hv:val B6 l=2*val B6 os+r:=by have:=HV.out;simpa using this
   refine bodyPost_ret (v:=.tuple #[.agg #[.bool (false&&decide (0<kk)),.slice (some ⟨w.heap.size+1+1,0,none⟩) kk n],.int .i64 (r:Int)]) (by simp [results,Tryz.results147,go_sem,g0,g1]) rfl ⟨(false&&decide (0<kk)),some ⟨w.heap.size+1+1,0,none⟩,kk,n,by rw [show ((val B6 l:Nat):Int)%2=(r:Int) by omega],Big.box2 (K:=.i64) ⟨trim os,htk ▸ hd0.take hkk,by omega,(Qal hown).2,Qa3 gos,Qa2 _,(fun h=>by cases h),?_⟩ hR2 (by decide) _ _,fresh_half (by have:=hb2.size;have:=Qan hO;simp;omega),((Qab hb2 hB hz).setCell (by dsimp only;omega) _).setCell (by dsimp only;omega) _⟩
   rw [Qa4];unfold sg;simp;omega
  ·have e:((j+1:Nat):Int)-1=(j:Int):=by omega
   rw [e]
   obtain ⟨g,rfl,hg,hc1⟩:=hd.at_ (by omega)
   have hx:=(hB.cell (p:=⟨g,j,none⟩) hg).trans (hc1 j (by omega))
   clear hc1
   have b1:dg l j<1000000:=QaU gl (by decide) j
   have hlen:=row_len6 hown
   obtain ⟨q1,q2,q3⟩:=half_rel (by rw [HL.out];omega) (by omega) HV.out gl hr
   have HV2:=Hd q3;clear q3 hlen
   have hf:=hown.frozenAt j
   have hz2:=Qbf hown (p:=j) (by omega)
   have hlt:(j:Int)<(n:Int):=by omega
   have h0:(0:Int)<=(j:Int):=by omega
   go_wp2_with fail
   go_roundw
   case rel=>exact ⟨j,(r*1000000+dg l j)%2,os.set j ((r*1000000+dg l j)/2),by omega,congrArg _ (by omega),rfl,q2,QbB hown j (by omega),gos.set _ q1,HV2.out,Qaf hX (by dsimp only;omega) _,Qaf hR (by dsimp only;omega) _,Qaf hO (by dsimp only;omega) _,hB.setCell (by dsimp only;omega) _⟩
   case measure=>simp [intOf]
theorem small_nat {Z:Nat} (h:Z<10 ^ 190):Small (Z:Int):=by
 unfold Small
 rw [Int.natAbs_natCast]
 exact Nat.lt_of_lt_of_le h (Nat.pow_le_pow_right (by omega) (by omega))
theorem sign_if (z:Int):(if z<0 then (-1:Int) else if z=0 then 0 else 1)=z.sign:=by
 rcases Int.lt_trichotomy z 0 with h | h | h
 ·rw [if_pos h,Int.sign_eq_neg_one_of_neg h]
 ·subst h;rfl
 ·rw [if_neg (by omega),if_neg (by omega),Int.sign_eq_one_of_pos h]
theorem small_neg {z:Int} (h:Small z):Small (-z):=by unfold Small at *;rw [Int.natAbs_neg];exact h
theorem cmp_r (w:World) {s t:Bool} {A B:Option Addr} {n c k d:Nat} {x y:Int} (ha:Big .i64 3 B6 w s A n c x) (hb:Big .i64 3 B6 w t B k d y) (sx:Small x) (sy:Small y) :
  Calls Tryz.prog 148 #[.agg #[.bool s,.slice A n c],.agg #[.bool t,.slice B k d]] w fun e w'=>e=.returned (.int .i64 (x-y).sign)/\Below w.heap.size w w':=by
 go_enter Tryz.func148,Tryz.ntmps148
 go_wp2_with fail
 have HW:=boxes2 w (.bool s) (.slice A n c) (.bool t) (.slice B k d) 77 77
 generalize (w.alloc (.cells #[.bool s,.slice A n c] 77)).alloc (.cells #[.bool t,.slice B k d] 77)=w3 at HW ⊢
 obtain ⟨hX,hY,hB⟩:=HW _ rfl
 clear HW
 have ha3:=ha.below hB
 have hb3:=hb.below hB
 obtain ⟨x0,x1,-,-,-⟩:=box2 hX
 obtain ⟨y0,y1,-,-,-⟩:=box2 hY
 go_region_held3 (fun w'=>w'.cell? ⟨w.heap.size,0,none⟩=some (.bool s)/\w'.cell? ⟨w.heap.size,1,none⟩=some (.slice A n c)/\w'.cell? ⟨w.heap.size+1,0,none⟩=some (.bool t)/\w'.cell? ⟨w.heap.size+1,1,none⟩=some (.slice B k d))
  (first | (with_reducible exact ⟨x40,x41,y40,y41⟩) | (with_reducible exact ⟨x50,x51,y50,y51⟩) | (with_reducible exact ⟨x60,x61,y60,y61⟩) | exact ⟨x0,x1,y0,y1⟩)
  (first
   | (go_at_call 149;refine (minus_r (by exact hb3)).mono ?_;rintro e w4 ⟨s4,A4,n4,c4,rfl,hv4,hb4⟩;(have hX4:=Qaa (w:=w3.drew) hX hb4);(have hY4:=Qaa (w:=w3.drew) hY hb4);obtain ⟨x40,x41,-,-,-⟩:=box2 hX4;obtain ⟨y40,y41,-,-,-⟩:=box2 hY4)
   | (go_at_call 80;refine (plus_r _ (by exact Big.below (w:=w3.drew) ha3 hb4) hv4 sx (small_neg sy)).mono ?_;rintro e w5 ⟨s5,A5,n5,c5,rfl,hv5,hb5⟩;(have hX5:=Qaa hX4 hb5);(have hY5:=Qaa hY4 hb5);obtain ⟨x50,x51,-,-,-⟩:=box2 hX5;obtain ⟨y50,y51,-,-,-⟩:=box2 hY5)
   | (go_at_call 84;refine (sign_r hv5).mono ?_;rintro e w6 ⟨hb6,rfl⟩;rw [sign_if];(have hX6:=Qaa hX5 hb6);(have hY6:=Qaa hY5 hb6);obtain ⟨x60,x61,-,-,-⟩:=box2 hX6;obtain ⟨y60,y61,-,-,-⟩:=box2 hY6))
 go_wp2
 go_ret
 have h4:Below w.heap.size w w4:=Qab hb4 (hB.drew) (by have:=hB.size;simpa using this)
 have h5:=Qab hb5 h4 h4.size
 exact ⟨by rw [Int.sub_eq_add_neg];rfl,Qab hb6 h5 h5.size⟩
theorem power_r (n:Nat) (w:World) (hn:n<=100) :
  Calls Tryz.prog 146 #[.int .i64 (n:Int)] w (Makes .i64 3 B6 w ((10 ^ n:Nat):Int)):=by
 have hs10:Small 10:=Qay (by omega) (by omega)
 go_enter Tryz.func146,Tryz.ntmps146
 go_wp2_with fail
 refine (of_r 1 _ (by omega)).mono ?_
 rintro e w1 ⟨s1,A1,n1,c1,rfl,hv,hb⟩
 have hB:=Qaa (Qac w _ rfl) hb
 have hbw:=Qab hb ((Below.refl _ _).alloc (Nat.le_refl _) _) (by simp)
 obtain ⟨-,-,-,-,z1⟩:=box2 hB
 go_wp2
 have hz1:=hbw.size
 go_loopw [6] (fun i wr=>∃ (j:Nat) (t:Bool) (A:Option Addr) (k c:Nat),j<=n/\i=.int .i64 j/\wr.heap[w1.heap.size]?=some (.cells #[.bool t,.slice A k c] 77 (0,0))/\wr.heap[w.heap.size]?=some (.cells #[.bool false,.slice none 0 0] 77 (0,0)) /\
   Big .i64 3 B6 wr t A k c ((10 ^ j:Nat):Int)/\Below w.heap.size w wr) (fun i _=>n-(intOf i).toNat)
 case atStart=>exact ⟨0,s1,A1,n1,c1,Nat.zero_le _,rfl,Qac _ _ rfl,Qad hB _,by exact hv.alloc _,hbw.alloc hz1 _⟩
 case round=>
  obtain ⟨j,t,A,k,c,hj,rfl,hO,hR,hbig,hbel⟩:=hrel
  have hzr:=hbel.size
  obtain ⟨o0,o1,of0,of1,oz⟩:=box2 hO
  rcases Nat.lt_or_ge j n with hjn | hjn
  ·go_wp2_with fail
   go_region_with
    (first
     | (go_at_call 83;refine (of_r 10 _ (by omega)).mono ?_;rintro e w4 ⟨s4,A4,n4,c4,rfl,hv4,hb4⟩;(have q1:=box2 (Qaa (w:=wr.drew) hO hb4));obtain ⟨r10,r11,-,-,-⟩:=q1)
     | (go_at_call 145;refine (timesof_r _ (by exact Big.below (w:=wr.drew) hbig hb4) hv4 (small_pow (by omega)) hs10).mono ?_;rintro e w5 ⟨s5,A5,n5,c5,rfl,hv5,hb5⟩;(have hB5:=Qaa (Qaa (w:=wr.drew) hO hb4) hb5);obtain ⟨g0,g1,g2,g3,g4⟩:=box2 hB5))
   all_goals
    have hR5:=Qaa (Qaa (w:=wr.drew) hR hb4) hb5
    have hpw:((10 ^ j:Nat):Int)*10=((10 ^ (j+1):Nat):Int):=by rw [Nat.pow_succ,Int.natCast_mul];rfl
    rw [hpw] at hv5
    clear hpw
    have hN:Big .i64 3 B6 ((w5.setCell ⟨w1.heap.size,0,none⟩ (.bool s5)).setCell ⟨w1.heap.size,1,none⟩ (.slice A5 n5 c5)) s5 A5 n5 c5 ((10 ^ (j+1):Nat):Int):=hv5.box2 hB5 (by decide) _ _
    have hO':((w5.setCell ⟨w1.heap.size,0,none⟩ (.bool s5)).setCell ⟨w1.heap.size,1,none⟩ (.slice A5 n5 c5)).heap[w1.heap.size]?=some (.cells #[.bool s5,.slice A5 n5 c5] 77 (0,0)):=Qae (Qae hB5 0 _) 1 _
    have hR':((w5.setCell ⟨w1.heap.size,0,none⟩ (.bool s5)).setCell ⟨w1.heap.size,1,none⟩ (.slice A5 n5 c5)).heap[w.heap.size]?=some (.cells #[.bool false,.slice none 0 0] 77 (0,0)):=Qaf (Qaf hR5 (by simp;omega) _) (by simp;omega) _
    have hb':Below w.heap.size w ((w5.setCell ⟨w1.heap.size,0,none⟩ (.bool s5)).setCell ⟨w1.heap.size,1,none⟩ (.slice A5 n5 c5)):=((Qab hb5 (Qab hb4 hbel.drew hzr) (Nat.le_trans hzr hb4.size)).setCell (by simp;omega) _).setCell (by simp;omega) _
    generalize (w5.setCell ⟨w1.heap.size,0,none⟩ (.bool s5)).setCell ⟨w1.heap.size,1,none⟩ (.slice A5 n5 c5)=w6 at hN hO' hR' hb' ⊢
    clear hv5 hB5 hR5 hb5 hb4 g0 g1 g2 g3 g4
    go_wp2
    go_roundw
    case rel=>exact ⟨j+1,s5,A5,n5,c5,by omega,by go_num,hO',hR',hN,hb'⟩
    case measure=>simp [intOf];omega
  ·obtain rfl:j=n:=by omega
   obtain ⟨g0,g1,g2,g3,g4⟩:=box2 hR
   go_wp2
   refine bodyPost_ret (v:=.agg #[.bool t,.slice A k c]) (by simp [results,Tryz.results146,go_sem,g0,g1]) rfl ⟨t,A,k,c,rfl,hbig.box2 hR (by decide) _ _,?_⟩
   go_grown
theorem at_r (u p:Int) (q:Nat) (w:World) (h:decB u p=true) (hp:p<=q) (hq:q<=9) :
  Calls Tryz.prog 81 #[.agg #[.int .i64 u,.int .i64 p],.int .i64 (q:Int)] w (Makes .i64 3 B6 w (Qaz u p q)):=by
 have h:=QaV h
 have su:Small u:=small_mul9 (by omega)
 have e:IntKind.i64.wrap ((q:Int)-p)=((q-p.toNat:Nat):Int):=by rw [IntWalk.i64_in _ (by omega)];omega
 have HE:=Hd e;clear e
 go_enter Tryz.func81,Tryz.ntmps81
 go_wp2_with fail
 have HW:=boxes2 w (.int .i64 u) (.int .i64 p) (.bool false) (.slice none 0 0) 70 77
 generalize (w.alloc (.cells #[.int .i64 u,.int .i64 p] 70)).alloc (.cells #[.bool false,.slice none 0 0] 77)=w3 at HW ⊢
 obtain ⟨hB1,hB3,hbel⟩:=HW _ rfl
 clear HW
 have hz3:=hbel.size
 obtain ⟨c10,c11,-,-,z1⟩:=box2 hB1
 obtain ⟨-,-,-,-,z3⟩:=box2 hB3
 go_region_held3 (fun w'=>w'.cell? ⟨w.heap.size,0,none⟩=some (.int .i64 u)/\w'.cell? ⟨w.heap.size,1,none⟩=some (.int .i64 p))
  (first | (go_keep;done) | (refine ⟨QaF r10 ?_,QaF r11 ?_⟩<;>omega))
  (first
   | (go_at_call 83;refine (of_r u _ (by omega)).mono ?_;rintro e w4 ⟨s4,A4,n4,c4,rfl,hv4,hb4⟩;(have hC1:=Qaa (w:=w3.drew) hB1 hb4);(have hC3:=Qaa (w:=w3.drew) hB3 hb4);(have hbel4:=Qab hb4 hbel.drew hz3);obtain ⟨r10,r11,-,-,-⟩:=box2 hC1)
   | (go_at_call 146;rw [HE.out];refine (power_r _ _ (by omega)).mono ?_;rintro e w5 ⟨s5,A5,n5,c5,rfl,hv5,hb5⟩;(have hE1:=Qaa hC1 hb5);(have hE3:=Qaa hC3 hb5);(have hbel5:=Qab hb5 hbel4 hbel4.size);obtain ⟨r10,r11,-,-,-⟩:=box2 hE1)
   | (go_at_call 145;refine (timesof_r _ (hv4.below hb5) hv5 su (small_pow (by omega))).mono ?_;rintro e w6 ⟨s6,A6,n6,c6,rfl,hv6,hb6⟩;(have hF1:=Qaa hE1 hb6);(have hF3:=Qaa hE3 hb6);(have hbel6:=Qab hb6 hbel5 hbel5.size);obtain ⟨r10,r11,-,-,-⟩:=box2 hF1;obtain ⟨g0,g1,g2,g3,g4⟩:=box2 hF3))
 go_wp2
 refine bodyPost_ret (v:=.agg #[.bool s6,.slice A6 n6 c6]) (by simp [results,Tryz.results81,go_sem,g0,g1]) rfl ⟨s6,A6,n6,c6,rfl,hv6.box2 hF3 (by decide) _ _,?_⟩
 go_grown
end Go.Proofs.YtaiabjiehpcaoaaGreatDoor
