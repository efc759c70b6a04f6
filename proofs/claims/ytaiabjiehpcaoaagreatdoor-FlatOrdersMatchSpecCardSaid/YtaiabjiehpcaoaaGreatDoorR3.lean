/- The walks of the reference's numbers: the leaves. The walks of the reference's numbers: sizes, Plus. The walks of the reference's numbers: Plus at two signs. -/
import Derived.Test.YtaiabjiehpcaoaaGreatDoorA7
-- merged: R1 R2 R3
set_option maxHeartbeats 4000000
set_option maxRecDepth 100000
namespace Go.Proofs.YtaiabjiehpcaoaaGreatDoor
open Go.RowKit Limb
theorem digit_c (l:List Nat) (A:Option Addr) (n c:Nat) (i:Nat) (w:World) (hd:Dig w .i64 3 A n l) (hn:n<=9223372036854775807) :
  Calls Tryz.prog 143 #[.slice A n c,.int .i64 i] w fun e w'=>w=w'/\e=.returned (.int .i64 (dg l i:Nat)):=by
 have hl:=hd.1
 by_cases hi:i<n
 ·obtain ⟨g,rfl,hg,hc⟩:=hd.at_ (by omega)
  have hx:=hc i hi
  have hi':(i:Int)<(n:Int):=by omega
  clear hc
  go_enter Tryz.func143,Tryz.ntmps143
  go_wp2
  go_ret
  exact ⟨rfl,rfl⟩
 ·have e:dg l i=0:=dg_out (by omega)
  have hi':¬ (i:Int)<(n:Int):=by omega
  rw [e]
  go_enter Tryz.func143,Tryz.ntmps143
  go_wp2
  go_ret
  exact ⟨rfl,rfl⟩
theorem sign_r {s:Bool} {A:Option Addr} {n c:Nat} {z:Int} {w:World} (h:Big .i64 3 B6 w s A n c z) :
  Calls Tryz.prog 84 #[.agg #[.bool s,.slice A n c]] w fun e w'=>Below w.heap.size w w'/\e=.returned (.int .i64 (if z<0 then -1 else if z=0 then 0 else 1)):=by
 obtain ⟨l,hd,_,_,hg,hn,hs,rfl⟩:=h
 have hl:=hd.1
 by_cases h0:n=0
 ·subst h0
  have e:l=[]:=List.length_eq_zero_iff.1 hl
  subst e
  have e:(if sg s (val B6 [])<0 then (-1:Int) else if sg s (val B6 [])=0 then 0 else 1)=0:=by simp [sg,val]
  rw [e]
  go_enter Tryz.func84,Tryz.ntmps84
  go_wp2
  go_ret
  exact ⟨by go_grown,rfl⟩
 ·have hn0:((n:Int)==0)=false:=by simp;omega
  have hne:l≠[]:=by rintro rfl;simp at hl;omega
  have hz:¬ sg s (val B6 l)=0:=by rw [sg_zero (by decide) hn];exact hne
  have hlt:=sg_neg (neg:=s) (b:=B6) (by decide) hn hs
  rcases (by cases s<;>simp:s=true∨s=false) with rfl | rfl
  ·have e:(if sg true (val B6 l)<0 then (-1:Int) else if sg true (val B6 l)=0 then 0 else 1)=-1:=if_pos (hlt.2 rfl)
   rw [e]
   clear hz hlt
   go_enter Tryz.func84,Tryz.ntmps84
   go_wp2
   go_ret
   exact ⟨by go_grown,rfl⟩
  ·have e:(if sg false (val B6 l)<0 then (-1:Int) else if sg false (val B6 l)=0 then 0 else 1)=1:=by rw [if_neg (by rw [hlt];simp),if_neg hz]
   rw [e]
   clear hz hlt
   go_enter Tryz.func84,Tryz.ntmps84
   go_wp2
   go_ret
   exact ⟨by go_grown,rfl⟩
def cellLen (w:World) (g:Nat):Nat:=match w.cell? ⟨g,1,none⟩ with | some (.slice _ k _)=>k | _=>0
theorem cellLen_of {w:World} {g k c:Nat} {x:Value} {A:Option Addr} {T:TypeId} (h:w.heap[g]?=some (.cells #[x,.slice A k c] T (0,0))):cellLen w g=k:=by
 unfold cellLen
 rw [(box2 h).2.1]
theorem Qb4 (l:List Nat) (s:Bool) (A:Option Addr) (n c:Nat) (w:World) (hd:Dig w .i64 3 A n l) (hc:n<=c) (hm:c<=maxLen) :
  Calls Tryz.prog 144 #[.agg #[.bool s,.slice A n c]] w fun e w'=>Below w.heap.size w w'/\∃ k,k<=n/\trim l=l.take k/\e=.returned (.agg #[.bool (s&&decide (0<k)),.slice A k c]):=by
 unfold maxLen at hm
 go_enter Tryz.func144,Tryz.ntmps144
 go_wp2
 generalize hw1:(w.alloc (Obj.cells #[Value.bool s,Value.slice A n c] 77)).alloc (Obj.cells #[Value.bool false,Value.slice none 0 0] 77)=w1
 obtain ⟨hX,hR,hB⟩:=boxes2 _ _ _ _ _ _ _ w1 hw1
 clear hw1
 go_loopw [] (fun wr=>∃ k,k<=n/\wr.heap[w.heap.size]?=some (.cells #[.bool s,.slice A k c] 77 (0,0))/\wr.heap[w.heap.size+1]?=some (.cells #[.bool false,.slice none 0 0] 77 (0,0))/\trim (l.take k)=trim l/\Below w.heap.size w wr) (fun wr=>cellLen wr w.heap.size)
 case atStart=>exact ⟨n,Nat.le_refl _,hX,hR,by rw [List.take_of_length_le (by rw [hd.1];exact Nat.le_refl _)],hB⟩
 case round=>
  clear hX hR hB w1
  obtain ⟨k,hk,hX,hR,ht,hB⟩:=hrel
  have HT:=Hd ht;clear ht
  obtain ⟨x0,x1,x2,x3,x4⟩:=box2 hX
  obtain ⟨r0,r1,r2,r3,r4⟩:=box2 hR
  have hl:=hd.1
  rcases k with _ | k
  ·go_wp2
   obtain ⟨y0,y1,-,-,-⟩:=box2 (Qaf hR (p:=⟨w.heap.size,0,none⟩) (by simp) (.bool false))
   refine bodyPost_ret (v:=.agg #[.bool false,.slice A 0 c]) (by simp [results,Tryz.results144,go_sem,y0,y1]) rfl ⟨by go_grown,0,Nat.zero_le _,by rw [<- HT.out,List.take_zero];rfl,by simp⟩
  ·obtain ⟨g,rfl,hg,hcell⟩:=hd.at_ (by omega)
   have hx:=(hB.cell (p:=⟨g,k,none⟩) hg).trans (hcell k (by omega))
   clear hcell
   by_cases h0:dg l k=0
   ·go_wp2
    go_roundw
    case rel=>exact ⟨k,by omega,by have:=Qae hX 1 (.slice (some ⟨g,0,none⟩) k c);simpa using this,Qaf hR (by simp) _,by rw [<- HT.out,trim_take_zero (by omega) h0],hB.setCell (Nat.le_refl _) _⟩
    case measure=>rw [cellLen_of hX,cellLen_of (A:=some ⟨g,0,none⟩) (k:=k) (c:=c) (T:=77) (x:=.bool s) (by have:=Qae hX 1 (.slice (some ⟨g,0,none⟩) k c);simpa using this)];omega
   ·go_wp2
    refine bodyPost_ret (v:=.agg #[.bool s,.slice (some ⟨g,0,none⟩) (k+1) c]) (by simp [results,Tryz.results144,go_sem,r0,r1]) rfl ⟨by go_grown,k+1,by omega,by rw [<- HT.out,trim_take_pos (by omega) h0],by simp⟩
theorem minus_r {s:Bool} {A:Option Addr} {n c:Nat} {z:Int} {w:World} (h:Big .i64 3 B6 w s A n c z) :
  Calls Tryz.prog 149 #[.agg #[.bool s,.slice A n c]] w (Makes .i64 3 B6 w (-z)):=by
 obtain ⟨l,hd,hnc,hcm,hg,hn,hs,rfl⟩:=h
 have hl:=hd.1
 by_cases h0:0<n
 ·go_enter Tryz.func149,Tryz.ntmps149
  go_wp2
  go_returns
  refine ⟨_,_,_,_,rfl,⟨l,(hd.alloc _).alloc _,hnc,hcm,hg,hn,fun _ e=>?_,?_⟩,by go_grown⟩
  ·subst e;simp at hl;omega
  ·cases s<;>simp [sg]
 ·have e:l=[]:=List.length_eq_zero_iff.1 (by omega)
  have hs':s=false:=by cases s with | false=>rfl | true=>exact absurd e (hs rfl)
  subst hs';subst e
  go_enter Tryz.func149,Tryz.ntmps149
  go_wp2
  go_returns
  exact ⟨_,_,_,_,rfl,⟨[],(hd.alloc _).alloc _,hnc,hcm,hg,hn,(fun h=>by cases h),by simp [sg,val]⟩,by go_grown⟩
theorem Qam {w w':World} {B E g n size:Nat} {cs:Array Value} {T:TypeId} {f:Nat×Nat} {v:Value} {xs:List Value} (h:w.heap[g]?=some (.cells cs T f)) (hown:w.ownsRow B E size v n xs) (hg:w.grownBy w' v.ownBlock) (hne:E≠T):w'.heap[g]?=some (.cells cs T f):=by
 refine (hg.block g (Qan h) ?_).trans h
 rcases hown.2 with ⟨hv,_⟩|⟨g',cap,cur,hv,_,hh,_⟩
 ·subst hv;simp [Value.ownBlock]
 ·subst hv
  have:=QaJ hh h hne
  simp [Value.ownBlock]
  omega
theorem own_ge {w:World} {B E n size:Nat} {v:Value} {xs:List Value} (hown:w.ownsRow B E size v n xs):∀ g,v.ownBlock=some g->B<=g:=by
 intro g hg
 rcases hown.2 with ⟨hv,_⟩|⟨g',cap,cur,hv,hb,hh,_⟩
 ·subst hv;simp [Value.ownBlock] at hg
 ·subst hv;simp [Value.ownBlock] at hg;omega
theorem Qbm {w:World} {B E g i n size:Nat} {cs:Array Value} {T:TypeId} {f:Nat×Nat} {v:Value} {xs:List Value} (hown:w.ownsRow B E size v n xs) (h:w.heap[g]?=some (.cells cs T f)) (hne:E≠T) (u:Value):(w.setCell ⟨g,i,none⟩ u).ownsRow B E size v n xs:=by
 refine ⟨hown.1,?_⟩
 rcases hown.2 with hv | ⟨g',cap,cur,hv,hb,hh,hr⟩
 ·exact .inl hv
 ·exact .inr ⟨g',cap,cur,hv,hb,Qaf hh (QaJ hh h hne) _,hr⟩
theorem of_len {os:List Nat} {y z:Nat} (hval:val B6 os+B6 ^ os.length*y=z) (hy:y≠0) (hz:z<=9223372036854775808):os.length<=3:=by
 rcases Nat.lt_or_ge os.length 4 with h | h
 ·omega
 ·have h1:B6 ^ 4<=B6 ^ os.length:=Nat.pow_le_pow_right (by decide) h
  have h2:B6 ^ os.length*1<=B6 ^ os.length*y:=Nat.mul_le_mul_left _ (by omega)
  have h3:B6 ^ 4=1000000000000000000000000:=by decide
  omega
theorem of_step {os:List Nat} {y z t q:Nat} (hval:val B6 os+B6 ^ os.length*y=z) (ht:t=y%1000000) (hq:q=y/1000000):val B6 (os++[t])+B6 ^ (os++[t]).length*q=z:=by
 subst ht;subst hq
 rw [Qbw,List.length_append,List.length_singleton,Nat.pow_succ,<- hval,Nat.mul_assoc,Nat.add_assoc,<- Nat.mul_add]
 have:y%1000000+B6*(y/1000000)=y:=by unfold B6;omega
 rw [this]
theorem Tryz.info3:(Tryz.prog.info? 3).map (fun i=>(i.zero,i.size,i.bytes))=some (some (.int .i64 0),1,8):=by kernel_rfl
theorem of_r (z:Int) (w:World) (hz : -9223372036854775808<=z/\z<=9223372036854775807) :
  Calls Tryz.prog 83 #[.int .i64 z] w (Makes .i64 3 B6 w z):=by
 obtain ⟨i0,hi,hz0,hz1,hz2⟩:=info_parts Tryz.info3
 go_enter Tryz.func83,Tryz.ntmps83
 go_wp2
 generalize hs:decide (z<0)=s
 have HS:=Hd hs;clear hs
 generalize hw1:(w.alloc (Obj.cells #[Value.bool false,Value.slice none 0 0] 77)).alloc (Obj.cells #[Value.bool s,Value.slice none 0 0] 77)=w1
 obtain ⟨hR,hX,hB⟩:=boxes2 _ _ _ _ _ _ _ w1 hw1
 clear hw1
 go_loopw [0] (fun v wr=>∃ (y:Int) (os:List Nat) (A:Option Addr) (c:Nat),v=.int .i64 y/\y.natAbs<=z.natAbs/\(y<0->z<0)/\(0<y->0<z)/\wr.heap[w.heap.size]?=some (.cells #[.bool false,.slice none 0 0] 77 (0,0)) /\
   wr.heap[w.heap.size+1]?=some (.cells #[.bool s,.slice A os.length c] 77 (0,0))/\wr.ownsRow w.heap.size 3 1 (.slice A os.length c) os.length (digV .i64 os) /\
   Digs B6 os/\os.length<=4/\(y=0->Norm os)/\val B6 os+B6 ^ os.length*y.natAbs=z.natAbs/\Below w.heap.size w wr) (fun v _=>(intOf v).natAbs)
 case atStart=>exact ⟨z,[],none,0,rfl,Nat.le_refl _,id,id,hR,hX,World.ownsRow_nil _ _ _ _,Digs.nil _,by simp,fun _=>norm_nil,by simp [val],hB⟩
 case round=>
  clear hR hX hB w1
  obtain ⟨y,os,A,c,rfl,hy,hn1,hn2,hR,hX,hown,gos,hlen,hnorm,hval,hB⟩:=hrel
  obtain ⟨x0,x1,x2,x3,x4⟩:=box2 hX
  obtain ⟨r0,r1,r2,r3,r4⟩:=box2 hR
  have HV:=Hd hval;have HN:=Hd hnorm;clear hval hnorm
  by_cases h0:y=0
  ·subst h0
   go_wp2
   have hz0:z.natAbs=val B6 os:=by have:=HV.out;simp at this;omega
   refine bodyPost_ret (v:=.agg #[.bool s,.slice A os.length c]) (by simp [results,Tryz.results83,go_sem,r0,r1]) rfl ⟨_,_,_,_,rfl,⟨os,?_,(Qal hown).1,(Qal hown).2,gos,HN.out trivial,?_,?_⟩,by go_grown⟩
   ·exact ((Dig.of_own hown).far hR (by decide) _).far (Qae hR 0 _) (by decide) _
   ·intro e1 e2
    subst e2
    have:=HS.out
    rw [e1] at this
    have:=of_decide_eq_true this
    simp [val] at hz0
    omega
   ·have:=HS.out
    unfold sg
    cases s with
    | true=>have:=of_decide_eq_true this;simp;omega
    | false=>have:=of_decide_eq_false this;simp;omega
  ·have h0':(y !=0)=true:=by simpa using h0
   have ht1:(y.tmod 1000000).natAbs=y.natAbs%1000000:=by rw [Int.natAbs_tmod];rfl
   have hq1:(y.tdiv 1000000).natAbs=y.natAbs/1000000:=by rw [Int.natAbs_tdiv];rfl
   have hq2:y=1000000*y.tdiv 1000000+y.tmod 1000000:=(Int.mul_tdiv_add_tmod y 1000000).symm
   have hq3:0<=y->0<=y.tdiv 1000000:=fun h=>Int.tdiv_nonneg h (by omega)
   have hq4:y<=0->y.tdiv 1000000<=0:=fun h=>by have:=Int.tdiv_nonneg (a:=-y) (b:=1000000) (by omega) (by omega);rw [Int.neg_tdiv] at this;omega
   obtain ⟨t,hte⟩:=ex_ (y.tmod 1000000)
   obtain ⟨q,hqe⟩:=ex_ (y.tdiv 1000000)
   rw [hte] at ht1 hq2
   rw [hqe] at hq1 hq2 hq3 hq4
   have HT:=Hd ht1;have HQ:=Hd hq1;have HQ2:=Hd hq2;have HQ3:=Hd hq3;have HQ4:=Hd hq4
   have hb1 : -999999<=t:=by omega
   have hb2:t<=999999:=by omega
   have hb3 : -9223372036856<=q:=by omega
   have hb4:q<=9223372036856:=by omega
   have hlen3:=of_len HV.out (by omega) (by omega)
   have hd1:t.natAbs<1000000:=by omega
   obtain ⟨d,hd⟩:∃ d,d=t.natAbs:=⟨_,rfl⟩
   have HD:=Hd hd
   have hst:val B6 (os++[d])+B6 ^ (os++[d]).length*q.natAbs=z.natAbs:=of_step HV.out (by omega) (by omega)
   have HST:=Hd hst
   rw [<- hd] at hd1
   clear hst hd
   clear ht1 hq1 hq2 hq3 hq4
   by_cases hneg:t < -t
   ·have hmx:max t (-t)=-t:=by omega
    go_wp2_with (first
     | (at_builtin;refine Qas rfl _ _ 75 rfl w.heap.size 3 i0 (.int .i64 0) 8 Tryz.underlying75 hi hz0 hz1 hz2 rfl (.slice A os.length c) os.length (digV .i64 os) rfl hown (.int .i64 (-t)) rfl rfl (by unfold maxLen;omega) (by omega) hB.size ?_;intro A2 c2 w2 hown2 hg2;have hX2:=Qam hX hown hg2 (by decide);have hR2:=Qam hR hown hg2 (by decide);have hB2:=hB.grown hg2 hB.size (own_ge hown);have hbx:=box2 hX2;obtain ⟨z0,z1,z2,z3,z4⟩:=hbx))
    go_roundw
    case rel=>
     have hlen2:os.length+1=(os++[d]).length:=by simp
     have hrow:digV .i64 os++[.int .i64 (-t)]=digV .i64 (os++[d]):=by rw [QaS];have:=HD.out;congr 3;omega
     rw [hrow,hlen2] at hown2
     rw [hlen2]
     have hy0:=HQ3.out
     have hy1:=HQ4.out
     have hy2:=HQ2.out
     have hd0:=HD.out
     exact ⟨q,os++[d],A2,c2,by go_num,by omega,fun h=>hn1 (by omega),fun h=>hn2 (by omega),Qaf hR2 (by simp) _,by have:=Qae hX2 1 (.slice A2 (os++[d]).length c2);simpa using this,Qbm hown2 hX2 (by decide) _,gos.snoc (by unfold B6;omega),by omega,fun h=>norm_snoc.2 (by omega),HST.out,hB2.setCell (Nat.le_succ _) _⟩
    case measure=>have hy0:=HQ.out;have hy1:y≠0:=h0;simp only [intOf];omega
   ·have hmx:max t (-t)=t:=by omega
    go_wp2_with (first
     | (at_builtin;refine Qas rfl _ _ 75 rfl w.heap.size 3 i0 (.int .i64 0) 8 Tryz.underlying75 hi hz0 hz1 hz2 rfl (.slice A os.length c) os.length (digV .i64 os) rfl hown (.int .i64 t) rfl rfl (by unfold maxLen;omega) (by omega) hB.size ?_;intro A2 c2 w2 hown2 hg2;have hX2:=Qam hX hown hg2 (by decide);have hR2:=Qam hR hown hg2 (by decide);have hB2:=hB.grown hg2 hB.size (own_ge hown);have hbx:=box2 hX2;obtain ⟨z0,z1,z2,z3,z4⟩:=hbx))
    go_roundw
    case rel=>
     have hlen2:os.length+1=(os++[d]).length:=by simp
     have hrow:digV .i64 os++[.int .i64 (t)]=digV .i64 (os++[d]):=by rw [QaS];have:=HD.out;congr 3;omega
     rw [hrow,hlen2] at hown2
     rw [hlen2]
     have hy0:=HQ3.out
     have hy1:=HQ4.out
     have hy2:=HQ2.out
     have hd0:=HD.out
     exact ⟨q,os++[d],A2,c2,by go_num,by omega,fun h=>hn1 (by omega),fun h=>hn2 (by omega),Qaf hR2 (by simp) _,by have:=Qae hX2 1 (.slice A2 (os++[d]).length c2);simpa using this,Qbm hown2 hX2 (by decide) _,gos.snoc (by unfold B6;omega),by omega,fun h=>norm_snoc.2 (by omega),HST.out,hB2.setCell (Nat.le_succ _) _⟩
    case measure=>have hy0:=HQ.out;have hy1:y≠0:=h0;simp only [intOf];omega
theorem sizes_r (l m:List Nat) (A B:Option Addr) (n c k d:Nat) (w:World) (hd:Dig w .i64 3 A n l) (hc:n<=c) (hm:c<=maxLen) (he:Dig w .i64 3 B k m) (hk:k<=d) (hm2:d<=maxLen)
  (gl:Digs B6 l) (gm:Digs B6 m) (nl:Norm l) (nm:Norm m) :
  Calls Tryz.prog 142 #[.slice A n c,.slice B k d] w (CmpEnd w (val B6 l) (val B6 m)):=by
 have hll:=hd.1
 have hml:=he.1
 by_cases hne:n=k
 ·subst hne
  have hne:((n:Int) !=(n:Int))=false:=by simp
  have hm':n<=9223372036854775807:=by unfold maxLen at hm;omega
  go_enter Tryz.func142,Tryz.ntmps142
  go_wp2
  go_loopw [5] (fun v wr=>∃ j:Nat,j<=n/\v=.int .i64 ((j:Int)-1)/\l.drop j=m.drop j/\∃ q,wr=w.drewN q) (fun v _=>(intOf v+1).toNat)
  case atStart=>exact ⟨n,Nat.le_refl _,rfl,by rw [List.drop_of_length_le (by omega),List.drop_of_length_le (by omega)],0,rfl⟩
  case round=>
   obtain ⟨j,hj,rfl,hdr,q,rfl⟩:=hrel
   have HD:=Hd hdr;clear hdr
   rcases j with _ | j
   ·go_wp2
    go_ret
    exact ⟨0,rfl,Cmp.eq (by have:=HD.out;simp at this;rw [this]),q,rfl⟩
   ·have e:((j+1:Nat):Int)-1=(j:Int):=by omega
    rw [e]
    obtain ⟨g,rfl,_,hc1⟩:=hd.at_ (by omega)
    obtain ⟨g',rfl,_,hc2⟩:=he.at_ (by omega)
    have hx:=hc1 j (by omega)
    have hy:=hc2 j (by omega)
    clear hc1 hc2
    have hlt:(j:Int)<(n:Int):=by omega
    have h0:(0:Int)<=(j:Int):=by omega
    have b1:dg l j<1000000:=QaU gl (by decide) j
    have b2:dg m j<1000000:=QaU gm (by decide) j
    by_cases hq:dg l j=dg m j
    ·have hq':(((dg l j:Nat):Int) !=((dg m j:Nat):Int))=false:=by simp [hq]
     have HQ:=Hd hq;clear hq
     go_wp2_with fail
     go_quiet (fail)
     go_wp2
     go_roundw
     case rel=>exact ⟨j,by omega,rfl,drop_eq_step (by omega) (by omega) HD.out HQ.out,_,rfl⟩
     case measure=>simp [intOf]
    ·have hq':(((dg l j:Nat):Int) !=((dg m j:Nat):Int))=true:=by simp;omega
     go_wp2_with fail
     go_quiet (fail)
     go_wp2_with fail
     go_quiet (fail)
     go_wp2
     go_ret
     refine ⟨((dg l j:Nat):Int)-((dg m j:Nat):Int),by go_num,?_,_,dN3 _ _ _ _⟩
     rcases Nat.lt_or_ge (dg l j) (dg m j) with hq2 | hq2
     ·have:=Qbe gl (by omega) (by omega) HD.out hq2
      unfold Cmp;omega
     ·have:=Qbe gm (by omega) (by omega) HD.out.symm (by unfold dg at *;omega)
      unfold Cmp;omega
 ·have hne':((n:Int) !=(k:Int))=true:=by simp;omega
  have H:=Hd (cmp_len (b:=B6) (by decide) gl gm nl nm (by omega) (by omega) (by omega))
  have hm':n<=9223372036854775807:=by unfold maxLen at hm;omega
  have hm2':k<=9223372036854775807:=by unfold maxLen at hm2;omega
  subst hll hml
  go_enter Tryz.func142,Tryz.ntmps142
  go_wp2
  go_ret
  exact ⟨_,rfl,H.out,0,rfl⟩
theorem sum_rel6 {l m os:List Nat} {j cy:Nat} (hos:os.length=j) (hval:val B6 os+B6 ^ j*cy=val B6 (l.take j)+val B6 (m.take j)) (gos:Digs B6 os) (hcy:cy<=1) (gl:Digs B6 l) (gm:Digs B6 m) :
  Digs B6 (os++[(cy+dg l j+dg m j)%B6])/\(cy+dg l j+dg m j)/B6<=1/\val B6 (os++[(cy+dg l j+dg m j)%B6])+B6 ^ (j+1)*((cy+dg l j+dg m j)/B6)=val B6 (l.take (j+1))+val B6 (m.take (j+1)):=by
 subst hos
 have b1:=QaU gl (by decide) os.length
 have b2:=QaU gm (by decide) os.length
 refine ⟨gos.snoc (Nat.mod_lt _ (by decide)),carry_le hcy b1 b2,?_⟩
 rw [sum_step hval,Qat,Qat]
 rfl
theorem plus_end {l m os:List Nat} {N cy:Nat} (hl:l.length<=N) (hm:m.length<=N) (gl:Digs B6 l) (gm:Digs B6 m) (h:val B6 os+B6 ^ (N+1)*cy=val B6 (l.take (N+1))+val B6 (m.take (N+1))):val B6 os=val B6 l+val B6 m:=by
 rw [List.take_of_length_le (by omega),List.take_of_length_le (by omega)] at h
 have h1:=val_lt gl
 have h2:=val_lt gm
 have h3:B6 ^ l.length<=B6 ^ N:=Nat.pow_le_pow_right (by decide) hl
 have h4:B6 ^ m.length<=B6 ^ N:=Nat.pow_le_pow_right (by decide) hm
 have h5:B6 ^ (N+1)=B6 ^ N*B6:=Nat.pow_succ ..
 rcases Nat.eq_zero_or_pos cy with h6 | h6
 ·subst h6;simpa using h
 ·have h7:B6 ^ (N+1)*1<=B6 ^ (N+1)*cy:=Nat.mul_le_mul_left _ h6
  rw [h5] at h7 h
  generalize B6 ^ N=P at *
  have h8:P*B6=1000000*P:=by rw [Nat.mul_comm];rfl
  omega
theorem trim_ne {s:Bool} {os:List Nat} {kk n:Nat} (h:trim os=os.take kk) (hn:os.length=n+1):(s&&decide (0<kk))=true->trim os≠[]:=by
 intro h1 h2
 rw [h] at h2
 have h3:=congrArg List.length h2
 rw [List.length_take] at h3
 have h4:0<kk:=by
  cases s with
  | false=>simp at h1
  | true=>simpa using h1
 rw [hn,List.length_nil] at h3
 omega
theorem plus_sg {s:Bool} {os:List Nat} {kk a b:Nat} (h:trim os=os.take kk) (hv:val B6 os=a+b):sg s a+sg s b=sg (s&&decide (0<kk)) (val B6 (trim os)):=by
 rw [Qa4,hv]
 by_cases h0:0<kk
 ·rw [decide_eq_true h0,Bool.and_true]
  unfold sg
  split<;>omega
 ·have h1:val B6 (trim os)=0:=by rw [h,show kk=0 by omega];rfl
  rw [Qa4,hv] at h1
  rw [decide_eq_false h0,Bool.and_false]
  unfold sg
  split<;>simp<;>omega
theorem plus_same_lt (w:World) {s:Bool} {A B:Option Addr} {n c k d:Nat} {x y:Int} (ha:Big .i64 3 B6 w s A n c x) (hb:Big .i64 3 B6 w s B k d y) (sx:Small x) (sy:Small y) (hnk:n<k) :
  Calls Tryz.prog 80 #[.agg #[.bool s,.slice A n c],.agg #[.bool s,.slice B k d]] w (Makes .i64 3 B6 w (x+y)):=by
 obtain ⟨l,hd,hnc,hcm,gl,nl,hs,rfl⟩:=ha
 obtain ⟨m,he,hkd,hdm,gm,nm,ht,rfl⟩:=hb
 obtain ⟨i0,hi,hz0,hz1,hz2⟩:=info_parts Tryz.info3
 have hl:=hd.1
 have hm:=he.1
 have h1:=QaQ nl sx
 have h2:=QaQ nm sy
 have HL:=Hd hl;have HM:=Hd hm
 rw [hl] at h1
 rw [hm] at h2
 clear hl hm
 have hN2:k<=200:=by omega
 go_enter Tryz.func80,Tryz.ntmps80
 go_wp2_with fail
 generalize hw1:(((w.alloc (Obj.cells #[Value.bool s,Value.slice A n c] 77)).alloc (Obj.cells #[Value.bool s,Value.slice B k d] 77)).alloc (Obj.cells #[Value.bool false,Value.slice none 0 0] 77)).alloc (Obj.cells #[Value.bool s,Value.slice none 0 0] 77)=w1
 obtain ⟨hX,hY,hR,hO,hB⟩:=boxes4 _ _ _ _ _ _ _ _ _ _ _ _ _ w1 hw1
 clear hw1
 go_loopw [10,71] (fun cv iv wr=>∃ (j cy:Nat) (os:List Nat) (A2:Option Addr) (c2:Nat),j<=k+1/\cv=.int .i64 cy/\iv=.int .i64 j/\os.length=j/\cy<=1/\Digs B6 os/\val B6 os+B6 ^ j*cy=val B6 (l.take j)+val B6 (m.take j) /\
   wr.heap[w.heap.size]?=some (.cells #[.bool s,.slice A n c] 77 (0,0))/\wr.heap[w.heap.size+1]?=some (.cells #[.bool s,.slice B k d] 77 (0,0))/\wr.heap[w.heap.size+1+1]?=some (.cells #[.bool false,.slice none 0 0] 77 (0,0)) /\
   wr.heap[w.heap.size+1+1+1]?=some (.cells #[.bool s,.slice A2 j c2] 77 (0,0))/\wr.ownsRow w.heap.size 3 1 (.slice A2 j c2) j (digV .i64 os)/\Below w.heap.size w wr) (fun _ iv _=>k+1-(intOf iv).toNat)
 case atStart=>exact ⟨0,0,[],none,0,by omega,rfl,rfl,rfl,by omega,Digs.nil _,by simp [val],hX,hY,hR,hO,World.ownsRow_nil _ _ _ _,hB⟩
 case round=>
  clear hX hY hR hO hB w1
  obtain ⟨j,cy,os,A2,c2,hj,rfl,rfl,hos,hcy,gos,hval,hX,hY,hR,hO,hown,hB⟩:=hrel
  have HV:=Hd hval;have HO:=Hd hos;clear hval hos
  obtain ⟨x0,x1,-,-,-⟩:=box2 hX
  obtain ⟨y0,y1,-,-,-⟩:=box2 hY
  obtain ⟨r0,r1,r2,r3,r4⟩:=box2 hR
  obtain ⟨o0,o1,o2,o3,o4⟩:=box2 hO
  have hz:=hB.size
  by_cases hjN:j<k+1
  ·have b1:=QaU gl (by decide) j
   have b2:=QaU gm (by decide) j
   unfold B6 at b1 b2
   have hdw:=hd.below hB
   have hew:=he.below hB
   have hdr:∀ x,Calls Tryz.prog 143 #[.slice A n c,.int .i64 j] (wr.drewN x) fun e w'=>e=.returned (.int .i64 (dg l j:Nat))/\w'=wr.drewN x:=fun x=>(digit_c l A n c j (wr.drewN x) hdw (by omega)).mono fun _ _ h=>⟨h.2,h.1.symm⟩
   have her:∀ x,Calls Tryz.prog 143 #[.slice B k d,.int .i64 j] (wr.drewN x) fun e w'=>e=.returned (.int .i64 (dg m j:Nat))/\w'=wr.drewN x:=fun x=>(digit_c m B k d j (wr.drewN x) hew (by omega)).mono fun _ _ h=>⟨h.2,h.1.symm⟩
   go_wp2_with fail
   go_quiet (first | (go_at_call_of 143 (Value.slice A n c);exact Calls.quiet_of_same (hdr _)) | (go_at_call_of 143 (Value.slice B k d);exact Calls.quiet_of_same (her _)))
   clear hdr her hdw hew x0 x1 y0 y1 r0 r1 r2 r3 r4 o0 o1 o2 o3 o4
   have hXd:(wr.drewN nq).heap[w.heap.size]?=some (.cells #[.bool s,.slice A n c] 77 (0,0)):=by exact hX
   have hYd:(wr.drewN nq).heap[w.heap.size+1]?=some (.cells #[.bool s,.slice B k d] 77 (0,0)):=by exact hY
   have hRd:(wr.drewN nq).heap[w.heap.size+1+1]?=some (.cells #[.bool false,.slice none 0 0] 77 (0,0)):=by exact hR
   have hOd:(wr.drewN nq).heap[w.heap.size+1+1+1]?=some (.cells #[.bool s,.slice A2 j c2] 77 (0,0)):=by exact hO
   have hownd:(wr.drewN nq).ownsRow w.heap.size 3 1 (.slice A2 j c2) j (digV .i64 os):=by exact hown
   have hBd:Below w.heap.size w (wr.drewN nq):=below_drewN hB nq
   generalize wr.drewN nq=wd at *
   clear hX hY hR hO hown hB hz
   have hzd:=hBd.size
   obtain ⟨o0,o1,o2,o3,o4⟩:=box2 hOd
   have HSR:=Hd (sum_rel6 HO.out HV.out gos hcy gl gm)
   have q1:(0:Int)<=((dg l j:Nat)+(dg m j:Nat)+(cy:Int)):=by omega
   have q2:((dg l j:Nat)+(dg m j:Nat)+(cy:Int))<=3000000:=by omega
   go_wp2_with (first
    | (at_builtin;refine Qas rfl _ _ 75 rfl w.heap.size 3 i0 (.int .i64 0) 8 Tryz.underlying75 hi hz0 hz1 hz2 rfl (.slice A2 j c2) j (digV .i64 os) rfl hownd (.int .i64 (((dg l j:Nat)+(dg m j:Nat)+(cy:Int))%1000000)) rfl rfl (by unfold maxLen;omega) (by omega) hzd ?_;intro A3 c3 w2 hown2 hg2;have hX2:=Qam hXd hownd hg2 (by decide);have hY2:=Qam hYd hownd hg2 (by decide);have hR2:=Qam hRd hownd hg2 (by decide);have hO2:=Qam hOd hownd hg2 (by decide);have hB2:=hBd.grown hg2 hzd (own_ge hownd);clear hg2;have hbx:=box2 hO2;obtain ⟨z0,z1,z2,z3,z4⟩:=hbx))
   go_roundw
   case rel=>
    obtain ⟨g1,g2,g3⟩:=HSR.out
    have hos:=HO.out
    have e1:(((dg l j:Nat)+(dg m j:Nat)+(cy:Int))%1000000)=(((cy+dg l j+dg m j)%B6:Nat):Int):=by unfold B6;omega
    have e2:(((dg l j:Nat)+(dg m j:Nat)+(cy:Int))/1000000)=(((cy+dg l j+dg m j)/B6:Nat):Int):=by unfold B6;omega
    rw [e1,<- QaS] at hown2
    exact ⟨j+1,(cy+dg l j+dg m j)/B6,os++[(cy+dg l j+dg m j)%B6],A3,c3,by omega,congrArg _ e2,by go_num,by simp [hos],g2,g1,g3,
     Qaf hX2 (by dsimp only;omega) _,Qaf hY2 (by dsimp only;omega) _,Qaf hR2 (by dsimp only;omega) _,by have:=Qae hO2 1 (.slice A3 (j+1) c3);simpa using this,Qbm hown2 hO2 (by decide) _,hB2.setCell (by dsimp only;omega) _⟩
   case measure=>simp [intOf];omega
  ·obtain rfl:j=k+1:=by omega
   go_wp2_with fail
   refine (Qb4 os s A2 (k+1) c2 _ (Dig.of_own hown) (Qal hown).1 (Qal hown).2).mono ?_
   rintro e w2 ⟨hb2,kk,hkk,htk,rfl⟩
   have hR2:=Qaa hR hb2
   obtain ⟨g0,g1,g2,g3,g4⟩:=box2 hR2
   go_wp2
   have hd0:=(Dig.of_own hown).below hb2
   refine bodyPost_ret (v:=.agg #[.bool (s&&decide (0<kk)),.slice A2 kk c2]) (by simp [results,Tryz.results80,go_sem,g0,g1]) rfl ⟨_,_,_,_,rfl,Big.box2 (K:=.i64) ⟨trim os,htk ▸ hd0.take hkk,?_,(Qal hown).2,Qa3 gos,Qa2 _,?_,?_⟩ hR2 (by decide) _ _,((Qab hb2 hB hz).setCell (by dsimp only;omega) _).setCell (by dsimp only;omega) _⟩
   ·have:=(Qal hown).1;omega
   ·exact trim_ne htk HO.out
   ·exact plus_sg htk (plus_end (by rw [HL.out];omega) (by rw [HM.out];omega) gl gm HV.out)
theorem plus_same_ge (w:World) {s:Bool} {A B:Option Addr} {n c k d:Nat} {x y:Int} (ha:Big .i64 3 B6 w s A n c x) (hb:Big .i64 3 B6 w s B k d y) (sx:Small x) (sy:Small y) (hnk:¬ n<k) :
  Calls Tryz.prog 80 #[.agg #[.bool s,.slice A n c],.agg #[.bool s,.slice B k d]] w (Makes .i64 3 B6 w (x+y)):=by
 obtain ⟨l,hd,hnc,hcm,gl,nl,hs,rfl⟩:=ha
 obtain ⟨m,he,hkd,hdm,gm,nm,ht,rfl⟩:=hb
 obtain ⟨i0,hi,hz0,hz1,hz2⟩:=info_parts Tryz.info3
 have hl:=hd.1
 have hm:=he.1
 have h1:=QaQ nl sx
 have h2:=QaQ nm sy
 have HL:=Hd hl;have HM:=Hd hm
 rw [hl] at h1
 rw [hm] at h2
 clear hl hm
 have hN2:n<=200:=by omega
 go_enter Tryz.func80,Tryz.ntmps80
 go_wp2_with fail
 generalize hw1:(((w.alloc (Obj.cells #[Value.bool s,Value.slice A n c] 77)).alloc (Obj.cells #[Value.bool s,Value.slice B k d] 77)).alloc (Obj.cells #[Value.bool false,Value.slice none 0 0] 77)).alloc (Obj.cells #[Value.bool s,Value.slice none 0 0] 77)=w1
 obtain ⟨hX,hY,hR,hO,hB⟩:=boxes4 _ _ _ _ _ _ _ _ _ _ _ _ _ w1 hw1
 clear hw1
 go_loopw [10,71] (fun cv iv wr=>∃ (j cy:Nat) (os:List Nat) (A2:Option Addr) (c2:Nat),j<=n+1/\cv=.int .i64 cy/\iv=.int .i64 j/\os.length=j/\cy<=1/\Digs B6 os/\val B6 os+B6 ^ j*cy=val B6 (l.take j)+val B6 (m.take j) /\
   wr.heap[w.heap.size]?=some (.cells #[.bool s,.slice A n c] 77 (0,0))/\wr.heap[w.heap.size+1]?=some (.cells #[.bool s,.slice B k d] 77 (0,0))/\wr.heap[w.heap.size+1+1]?=some (.cells #[.bool false,.slice none 0 0] 77 (0,0)) /\
   wr.heap[w.heap.size+1+1+1]?=some (.cells #[.bool s,.slice A2 j c2] 77 (0,0))/\wr.ownsRow w.heap.size 3 1 (.slice A2 j c2) j (digV .i64 os)/\Below w.heap.size w wr) (fun _ iv _=>n+1-(intOf iv).toNat)
 case atStart=>exact ⟨0,0,[],none,0,by omega,rfl,rfl,rfl,by omega,Digs.nil _,by simp [val],hX,hY,hR,hO,World.ownsRow_nil _ _ _ _,hB⟩
 case round=>
  clear hX hY hR hO hB w1
  obtain ⟨j,cy,os,A2,c2,hj,rfl,rfl,hos,hcy,gos,hval,hX,hY,hR,hO,hown,hB⟩:=hrel
  have HV:=Hd hval;have HO:=Hd hos;clear hval hos
  obtain ⟨x0,x1,-,-,-⟩:=box2 hX
  obtain ⟨y0,y1,-,-,-⟩:=box2 hY
  obtain ⟨r0,r1,r2,r3,r4⟩:=box2 hR
  obtain ⟨o0,o1,o2,o3,o4⟩:=box2 hO
  have hz:=hB.size
  by_cases hjN:j<n+1
  ·have b1:=QaU gl (by decide) j
   have b2:=QaU gm (by decide) j
   unfold B6 at b1 b2
   have hdw:=hd.below hB
   have hew:=he.below hB
   have hdr:∀ x,Calls Tryz.prog 143 #[.slice A n c,.int .i64 j] (wr.drewN x) fun e w'=>e=.returned (.int .i64 (dg l j:Nat))/\w'=wr.drewN x:=fun x=>(digit_c l A n c j (wr.drewN x) hdw (by omega)).mono fun _ _ h=>⟨h.2,h.1.symm⟩
   have her:∀ x,Calls Tryz.prog 143 #[.slice B k d,.int .i64 j] (wr.drewN x) fun e w'=>e=.returned (.int .i64 (dg m j:Nat))/\w'=wr.drewN x:=fun x=>(digit_c m B k d j (wr.drewN x) hew (by omega)).mono fun _ _ h=>⟨h.2,h.1.symm⟩
   go_wp2_with fail
   go_quiet (first | (go_at_call_of 143 (Value.slice A n c);exact Calls.quiet_of_same (hdr _)) | (go_at_call_of 143 (Value.slice B k d);exact Calls.quiet_of_same (her _)))
   clear hdr her hdw hew x0 x1 y0 y1 r0 r1 r2 r3 r4 o0 o1 o2 o3 o4
   have hXd:(wr.drewN nq).heap[w.heap.size]?=some (.cells #[.bool s,.slice A n c] 77 (0,0)):=by exact hX
   have hYd:(wr.drewN nq).heap[w.heap.size+1]?=some (.cells #[.bool s,.slice B k d] 77 (0,0)):=by exact hY
   have hRd:(wr.drewN nq).heap[w.heap.size+1+1]?=some (.cells #[.bool false,.slice none 0 0] 77 (0,0)):=by exact hR
   have hOd:(wr.drewN nq).heap[w.heap.size+1+1+1]?=some (.cells #[.bool s,.slice A2 j c2] 77 (0,0)):=by exact hO
   have hownd:(wr.drewN nq).ownsRow w.heap.size 3 1 (.slice A2 j c2) j (digV .i64 os):=by exact hown
   have hBd:Below w.heap.size w (wr.drewN nq):=below_drewN hB nq
   generalize wr.drewN nq=wd at *
   clear hX hY hR hO hown hB hz
   have hzd:=hBd.size
   obtain ⟨o0,o1,o2,o3,o4⟩:=box2 hOd
   have HSR:=Hd (sum_rel6 HO.out HV.out gos hcy gl gm)
   have q1:(0:Int)<=((dg l j:Nat)+(dg m j:Nat)+(cy:Int)):=by omega
   have q2:((dg l j:Nat)+(dg m j:Nat)+(cy:Int))<=3000000:=by omega
   go_wp2_with (first
    | (at_builtin;refine Qas rfl _ _ 75 rfl w.heap.size 3 i0 (.int .i64 0) 8 Tryz.underlying75 hi hz0 hz1 hz2 rfl (.slice A2 j c2) j (digV .i64 os) rfl hownd (.int .i64 (((dg l j:Nat)+(dg m j:Nat)+(cy:Int))%1000000)) rfl rfl (by unfold maxLen;omega) (by omega) hzd ?_;intro A3 c3 w2 hown2 hg2;have hX2:=Qam hXd hownd hg2 (by decide);have hY2:=Qam hYd hownd hg2 (by decide);have hR2:=Qam hRd hownd hg2 (by decide);have hO2:=Qam hOd hownd hg2 (by decide);have hB2:=hBd.grown hg2 hzd (own_ge hownd);clear hg2;have hbx:=box2 hO2;obtain ⟨z0,z1,z2,z3,z4⟩:=hbx))
   go_roundw
   case rel=>
    obtain ⟨g1,g2,g3⟩:=HSR.out
    have hos:=HO.out
    have e1:(((dg l j:Nat)+(dg m j:Nat)+(cy:Int))%1000000)=(((cy+dg l j+dg m j)%B6:Nat):Int):=by unfold B6;omega
    have e2:(((dg l j:Nat)+(dg m j:Nat)+(cy:Int))/1000000)=(((cy+dg l j+dg m j)/B6:Nat):Int):=by unfold B6;omega
    rw [e1,<- QaS] at hown2
    exact ⟨j+1,(cy+dg l j+dg m j)/B6,os++[(cy+dg l j+dg m j)%B6],A3,c3,by omega,congrArg _ e2,by go_num,by simp [hos],g2,g1,g3,
     Qaf hX2 (by dsimp only;omega) _,Qaf hY2 (by dsimp only;omega) _,Qaf hR2 (by dsimp only;omega) _,by have:=Qae hO2 1 (.slice A3 (j+1) c3);simpa using this,Qbm hown2 hO2 (by decide) _,hB2.setCell (by dsimp only;omega) _⟩
   case measure=>simp [intOf];omega
  ·obtain rfl:j=n+1:=by omega
   go_wp2_with fail
   refine (Qb4 os s A2 (n+1) c2 _ (Dig.of_own hown) (Qal hown).1 (Qal hown).2).mono ?_
   rintro e w2 ⟨hb2,kk,hkk,htk,rfl⟩
   have hR2:=Qaa hR hb2
   obtain ⟨g0,g1,g2,g3,g4⟩:=box2 hR2
   go_wp2
   have hd0:=(Dig.of_own hown).below hb2
   refine bodyPost_ret (v:=.agg #[.bool (s&&decide (0<kk)),.slice A2 kk c2]) (by simp [results,Tryz.results80,go_sem,g0,g1]) rfl ⟨_,_,_,_,rfl,Big.box2 (K:=.i64) ⟨trim os,htk ▸ hd0.take hkk,?_,(Qal hown).2,Qa3 gos,Qa2 _,?_,?_⟩ hR2 (by decide) _ _,((Qab hb2 hB hz).setCell (by dsimp only;omega) _).setCell (by dsimp only;omega) _⟩
   ·have:=(Qal hown).1;omega
   ·exact trim_ne htk HO.out
   ·exact plus_sg htk (plus_end (by rw [HL.out];omega) (by rw [HM.out];omega) gl gm HV.out)
theorem plus_same_r (w:World) {s:Bool} {A B:Option Addr} {n c k d:Nat} {x y:Int} (ha:Big .i64 3 B6 w s A n c x) (hb:Big .i64 3 B6 w s B k d y) (sx:Small x) (sy:Small y) :
  Calls Tryz.prog 80 #[.agg #[.bool s,.slice A n c],.agg #[.bool s,.slice B k d]] w (Makes .i64 3 B6 w (x+y)):=by
 by_cases hnk:n<k
 ·exact plus_same_lt w ha hb sx sy hnk
 ·exact plus_same_ge w ha hb sx sy hnk
theorem diff_rel6 {l m os:List Nat} {j br:Nat} (hos:os.length=j) (hval:val B6 (l.take j)+B6 ^ j*br=val B6 os+val B6 (m.take j)) (gos:Digs B6 os) (hbr:br<=1) (gl:Digs B6 l) (gm:Digs B6 m) :
  Digs B6 (os++[dig B6 br (dg l j) (dg m j)])/\val B6 (l.take (j+1))+B6 ^ (j+1)*bor br (dg l j) (dg m j)=val B6 (os++[dig B6 br (dg l j) (dg m j)])+val B6 (m.take (j+1)):=by
 subst hos
 have b1:=QaU gl (by decide) os.length
 have b2:=QaU gm (by decide) os.length
 refine ⟨gos.snoc (dig_lt hbr b1 b2),?_⟩
 rw [Qat,Qat]
 exact diff_step hval hbr b1 b2
theorem diff_end6 {l m os:List Nat} {n br:Nat} (hl:l.length<=n) (hos:os.length=n) (hle:val B6 m<=val B6 l) (gos:Digs B6 os) (gm:Digs B6 m) (nm:Norm m) (gl:Digs B6 l) (h:val B6 (l.take n)+B6 ^ n*br=val B6 os+val B6 (m.take n)):val B6 os=val B6 l-val B6 m:=by
 have hml:m.length<=n:=by
  have h1:val B6 m<B6 ^ n:=by
   have h2:=val_lt gl
   have h3:B6 ^ l.length<=B6 ^ n:=Nat.pow_le_pow_right (by decide) hl
   omega
  exact len_le (by decide) nm h1
 have _:=gm
 rw [List.take_of_length_le hl,List.take_of_length_le hml,<- hos] at h
 exact diff_end h gos hle
theorem trim_ne0 {s:Bool} {os:List Nat} {kk n:Nat} (h:trim os=os.take kk) (hk:kk<=n) (hn:os.length=n):(s&&decide (0<kk))=true->trim os≠[]:=by
 intro h1 h2
 rw [h] at h2
 have h3:=congrArg List.length h2
 rw [List.length_take] at h3
 have h4:0<kk:=by
  cases s with
  | false=>simp at h1
  | true=>simpa using h1
 rw [hn,List.length_nil] at h3
 omega
theorem diff_sg_keep {s t:Bool} {os:List Nat} {kk a b:Nat} (hst:s≠t) (h:trim os=os.take kk) (hv:val B6 os=a-b) (hle:b<=a):sg s a+sg t b=sg (s&&decide (0<kk)) (val B6 (trim os)):=by
 rw [Qa4,hv]
 by_cases h0:0<kk
 ·rw [decide_eq_true h0,Bool.and_true]
  unfold sg
  cases s<;>cases t<;>simp at hst ⊢ <;> omega
 ·have h1:val B6 (trim os)=0:=by rw [h,show kk=0 by omega];rfl
  rw [Qa4,hv] at h1
  rw [decide_eq_false h0,Bool.and_false]
  unfold sg
  cases s<;>cases t<;>simp at hst ⊢ <;> omega
theorem diff_sg_swap {s t:Bool} {os:List Nat} {kk a b:Nat} (hst:s≠t) (h:trim os=os.take kk) (hv:val B6 os=b-a) (hle:a<=b):sg s a+sg t b=sg (t&&decide (0<kk)) (val B6 (trim os)):=by
 rw [Int.add_comm]
 exact diff_sg_keep (fun e=>hst e.symm) h hv hle
theorem plus_diff_swap (w:World) {s t:Bool} {A B:Option Addr} {n c k d:Nat} {x y:Int} (ha:Big .i64 3 B6 w s A n c x) (hb:Big .i64 3 B6 w t B k d y) (sx:Small x) (sy:Small y) (hst:s≠t) (hlt:x.natAbs<y.natAbs) :
  Calls Tryz.prog 80 #[.agg #[.bool s,.slice A n c],.agg #[.bool t,.slice B k d]] w (Makes .i64 3 B6 w (x+y)):=by
 obtain ⟨l,hd,hnc,hcm,gl,nl,hs,rfl⟩:=ha
 obtain ⟨m,he,hkd,hdm,gm,nm,ht,rfl⟩:=hb
 obtain ⟨i0,hi,hz0,hz1,hz2⟩:=info_parts Tryz.info3
 have hl:=hd.1
 have hm:=he.1
 have h1:=QaQ nl sx
 have h2:=QaQ nm sy
 have HL:=Hd hl;have HM:=Hd hm
 rw [hl] at h1
 rw [hm] at h2
 rw [Qau,Qau] at hlt
 have HLT:=Hd hlt;have HST:=Hd hst
 have hst':(s !=t)=true:=by simpa using hst
 have hst2:(s==t)=false:=by simpa using hst
 clear hl hm hlt hst
 go_enter Tryz.func80,Tryz.ntmps80
 go_wp2_with fail
 generalize hw1:((w.alloc (Obj.cells #[Value.bool s,Value.slice A n c] 77)).alloc (Obj.cells #[Value.bool t,Value.slice B k d] 77)).alloc (Obj.cells #[Value.bool false,Value.slice none 0 0] 77)=w1
 obtain ⟨hX,hY,hR,hB⟩:=boxes3 _ _ _ _ _ _ _ _ _ _ w1 hw1
 have hz1:w1.heap.size=w.heap.size+1+1+1:=by rw [<- hw1];simp
 clear hw1
 obtain ⟨x0,x1,x2,x3,x4⟩:=box2 hX
 obtain ⟨y0,y1,y2,y3,y4⟩:=box2 hY
 refine (sizes_r l m A B n c k d _ (hd.below hB) hnc hcm (he.below hB) hkd hdm gl gm nl nm).mono ?_
 rintro e w2 ⟨r,rfl,hr,q,rfl⟩
 have hr0:r<0:=by have:=HLT.out;have:=hr.1;omega
 clear hr
 have hXd:(w1.drewN q).heap[w.heap.size]?=some (.cells #[.bool s,.slice A n c] 77 (0,0)):=by exact hX
 have hYd:(w1.drewN q).heap[w.heap.size+1]?=some (.cells #[.bool t,.slice B k d] 77 (0,0)):=by exact hY
 have hRd:(w1.drewN q).heap[w.heap.size+1+1]?=some (.cells #[.bool false,.slice none 0 0] 77 (0,0)):=by exact hR
 have hBd:Below w.heap.size w (w1.drewN q):=below_drewN hB q
 have hzd:(w1.drewN q).heap.size=w.heap.size+1+1+1:=by exact hz1
 generalize w1.drewN q=wd at *
 clear hX hY hR hB hz1 x0 x1 x2 x3 x4 y0 y1 y2 y3 y4
 obtain ⟨x0,x1,x2,x3,x4⟩:=box2 hXd
 obtain ⟨y0,y1,y2,y3,y4⟩:=box2 hYd
 go_wp2_with fail
 have hX:(((((wd.setCell ⟨w.heap.size,0,none⟩ (.bool t)).setCell ⟨w.heap.size,1,none⟩ (.slice B k d)).setCell ⟨w.heap.size+1,0,none⟩ (.bool s)).setCell ⟨w.heap.size+1,1,none⟩ (.slice A n c)).alloc (.cells #[.bool t,.slice none 0 0] 77)).heap[w.heap.size]?=some (.cells #[.bool t,.slice B k d] 77 (0,0)):=by
  have:=Qad (Qaf (Qaf (Qae (Qae hXd 0 (.bool t)) 1 (.slice B k d)) (p:=⟨w.heap.size+1,0,none⟩) (by dsimp only;omega) (.bool s)) (p:=⟨w.heap.size+1,1,none⟩) (by dsimp only;omega) (.slice A n c)) (.cells #[.bool t,.slice none 0 0] 77)
  simpa using this
 have hY:(((((wd.setCell ⟨w.heap.size,0,none⟩ (.bool t)).setCell ⟨w.heap.size,1,none⟩ (.slice B k d)).setCell ⟨w.heap.size+1,0,none⟩ (.bool s)).setCell ⟨w.heap.size+1,1,none⟩ (.slice A n c)).alloc (.cells #[.bool t,.slice none 0 0] 77)).heap[w.heap.size+1]?=some (.cells #[.bool s,.slice A n c] 77 (0,0)):=by
  have:=Qad (Qae (Qae (Qaf (Qaf hYd (p:=⟨w.heap.size,0,none⟩) (by dsimp only;omega) (.bool t)) (p:=⟨w.heap.size,1,none⟩) (by dsimp only;omega) (.slice B k d)) 0 (.bool s)) 1 (.slice A n c)) (.cells #[.bool t,.slice none 0 0] 77)
  simpa using this
 have hR:(((((wd.setCell ⟨w.heap.size,0,none⟩ (.bool t)).setCell ⟨w.heap.size,1,none⟩ (.slice B k d)).setCell ⟨w.heap.size+1,0,none⟩ (.bool s)).setCell ⟨w.heap.size+1,1,none⟩ (.slice A n c)).alloc (.cells #[.bool t,.slice none 0 0] 77)).heap[w.heap.size+1+1]?=some (.cells #[.bool false,.slice none 0 0] 77 (0,0)) :=
  Qad (Qaf (Qaf (Qaf (Qaf hRd (p:=⟨w.heap.size,0,none⟩) (by dsimp only;omega) (.bool t)) (p:=⟨w.heap.size,1,none⟩) (by dsimp only;omega) (.slice B k d)) (p:=⟨w.heap.size+1,0,none⟩) (by dsimp only;omega) (.bool s)) (p:=⟨w.heap.size+1,1,none⟩) (by dsimp only;omega) (.slice A n c)) (.cells #[.bool t,.slice none 0 0] 77)
 have hO:(((((wd.setCell ⟨w.heap.size,0,none⟩ (.bool t)).setCell ⟨w.heap.size,1,none⟩ (.slice B k d)).setCell ⟨w.heap.size+1,0,none⟩ (.bool s)).setCell ⟨w.heap.size+1,1,none⟩ (.slice A n c)).alloc (.cells #[.bool t,.slice none 0 0] 77)).heap[w.heap.size+1+1+1]?=some (.cells #[.bool t,.slice none 0 0] 77 (0,0)):=Qac _ _ (by simp [hzd])
 have hB:Below w.heap.size w (((((wd.setCell ⟨w.heap.size,0,none⟩ (.bool t)).setCell ⟨w.heap.size,1,none⟩ (.slice B k d)).setCell ⟨w.heap.size+1,0,none⟩ (.bool s)).setCell ⟨w.heap.size+1,1,none⟩ (.slice A n c)).alloc (.cells #[.bool t,.slice none 0 0] 77)):=((((hBd.setCell (p:=⟨w.heap.size,0,none⟩) (Nat.le_refl _) _).setCell (p:=⟨w.heap.size,1,none⟩) (Nat.le_refl _) _).setCell (p:=⟨w.heap.size+1,0,none⟩) (by dsimp only;omega) _).setCell (p:=⟨w.heap.size+1,1,none⟩) (by dsimp only;omega) _).alloc (by simp [hzd];omega) _
 generalize ((((wd.setCell ⟨w.heap.size,0,none⟩ (.bool t)).setCell ⟨w.heap.size,1,none⟩ (.slice B k d)).setCell ⟨w.heap.size+1,0,none⟩ (.bool s)).setCell ⟨w.heap.size+1,1,none⟩ (.slice A n c)).alloc (.cells #[.bool t,.slice none 0 0] 77)=ws at hX hY hR hO hB ⊢
 clear hXd hYd hRd hBd hzd x0 x1 x2 x3 x4 y0 y1 y2 y3 y4
 go_loopw [6,32] (fun bv iv wr=>∃ (j br:Nat) (os:List Nat) (A2:Option Addr) (c2:Nat),j<=k/\bv=.int .i64 br/\iv=.int .i64 j/\os.length=j/\br<=1/\Digs B6 os/\val B6 (m.take j)+B6 ^ j*br=val B6 os+val B6 (l.take j) /\
   wr.heap[w.heap.size]?=some (.cells #[.bool t,.slice B k d] 77 (0,0))/\wr.heap[w.heap.size+1]?=some (.cells #[.bool s,.slice A n c] 77 (0,0))/\wr.heap[w.heap.size+1+1]?=some (.cells #[.bool false,.slice none 0 0] 77 (0,0)) /\
   wr.heap[w.heap.size+1+1+1]?=some (.cells #[.bool t,.slice A2 j c2] 77 (0,0))/\wr.ownsRow w.heap.size 3 1 (.slice A2 j c2) j (digV .i64 os)/\Below w.heap.size w wr) (fun _ iv _=>k-(intOf iv).toNat)
 case atStart=>exact ⟨0,0,[],none,0,by omega,rfl,rfl,rfl,by omega,Digs.nil _,by simp [val],hX,hY,hR,hO,World.ownsRow_nil _ _ _ _,hB⟩
 case round=>
  clear hX hY hR hO hB ws
  obtain ⟨j,br,os,A2,c2,hj,rfl,rfl,hos,hbr,gos,hval,hX,hY,hR,hO,hown,hB⟩:=hrel
  have HV:=Hd hval;have HO:=Hd hos;clear hval hos
  obtain ⟨x0,x1,-,-,-⟩:=box2 hX
  obtain ⟨y0,y1,-,-,-⟩:=box2 hY
  obtain ⟨r0,r1,r2,r3,r4⟩:=box2 hR
  obtain ⟨o0,o1,o2,o3,o4⟩:=box2 hO
  have hz:=hB.size
  by_cases hjN:j<k
  ·have b1:=QaU gm (by decide) j
   have b2:=QaU gl (by decide) j
   unfold B6 at b1 b2
   have hew:=hd.below hB
   have her:∀ x,Calls Tryz.prog 143 #[.slice A n c,.int .i64 j] (wr.drewN x) fun e w'=>e=.returned (.int .i64 (dg l j:Nat))/\w'=wr.drewN x:=fun x=>(digit_c l A n c j (wr.drewN x) hew (by omega)).mono fun _ _ h=>⟨h.2,h.1.symm⟩
   obtain ⟨g,rfl,hg,hcell⟩:=he.at_ (by omega)
   have hx:=(hB.cell (p:=⟨g,j,none⟩) hg).trans (hcell j hjN)
   clear hcell
   have hjI:(j:Int)<(k:Int):=by omega
   go_wp2_with fail
   go_quiet ((go_at_call 143;exact Calls.quiet_of_same (her _)))
   clear her hew x0 x1 y0 y1 r0 r1 r2 r3 r4 o0 o1 o2 o3 o4 hx
   have hXd:(wr.drewN nq).heap[w.heap.size]?=some (.cells #[.bool t,.slice (some ⟨g,0,none⟩) k d] 77 (0,0)):=by exact hX
   have hYd:(wr.drewN nq).heap[w.heap.size+1]?=some (.cells #[.bool s,.slice A n c] 77 (0,0)):=by exact hY
   have hRd:(wr.drewN nq).heap[w.heap.size+1+1]?=some (.cells #[.bool false,.slice none 0 0] 77 (0,0)):=by exact hR
   have hOd:(wr.drewN nq).heap[w.heap.size+1+1+1]?=some (.cells #[.bool t,.slice A2 j c2] 77 (0,0)):=by exact hO
   have hownd:(wr.drewN nq).ownsRow w.heap.size 3 1 (.slice A2 j c2) j (digV .i64 os):=by exact hown
   have hBd:Below w.heap.size w (wr.drewN nq):=below_drewN hB nq
   generalize wr.drewN nq=wd at *
   clear hX hY hR hO hown hB hz
   have hzd:=hBd.size
   obtain ⟨o0,o1,o2,o3,o4⟩:=box2 hOd
   have HSR:=Hd (diff_rel6 HO.out HV.out gos hbr gm gl)
   obtain ⟨p,hp⟩:=ex_ (dg m j)
   obtain ⟨q,hq⟩:=ex_ (dg l j)
   rw [hp] at b1
   rw [hq] at b2
   rw [hp,hq] at HSR
   rw [hp,hq]
   clear hp hq
   by_cases hneg:(p:Int)-(q:Int)-(br:Int)<0
   ·go_wp2_with (first
     | (at_builtin;refine Qas rfl _ _ 75 rfl w.heap.size 3 i0 (.int .i64 0) 8 Tryz.underlying75 hi hz0 hz1 hz2 rfl (.slice A2 j c2) j (digV .i64 os) rfl hownd (.int .i64 ((p:Int)-(q:Int)-(br:Int)+1000000)) rfl rfl (by unfold maxLen;omega) (by omega) hzd ?_;intro A3 c3 w2 hown2 hg2;have hX2:=Qam hXd hownd hg2 (by decide);have hY2:=Qam hYd hownd hg2 (by decide);have hR2:=Qam hRd hownd hg2 (by decide);have hO2:=Qam hOd hownd hg2 (by decide);have hB2:=hBd.grown hg2 hzd (own_ge hownd);clear hg2;have hbx:=box2 hO2;obtain ⟨z0,z1,z2,z3,z4⟩:=hbx))
    go_roundw
    case rel=>
     obtain ⟨g1,g3⟩:=HSR.out
     have hos:=HO.out
     have e1:((p:Int)-(q:Int)-(br:Int)+1000000)=((dig B6 br p q:Nat):Int):=by unfold dig B6;split<;>omega
     have e2:bor br p q=1:=by unfold bor;rw [if_pos (by omega)]
     rw [e1,<- QaS] at hown2
     rw [e2] at g3
     exact ⟨j+1,1,os++[dig B6 br p q],A3,c3,by omega,by go_num,by go_num,by simp [hos],by omega,g1,g3,
      Qaf hX2 (by dsimp only;omega) _,Qaf hY2 (by dsimp only;omega) _,Qaf hR2 (by dsimp only;omega) _,by have:=Qae hO2 1 (.slice A3 (j+1) c3);simpa using this,Qbm hown2 hO2 (by decide) _,hB2.setCell (by dsimp only;omega) _⟩
    case measure=>simp [intOf];omega
   ·go_wp2_with (first
     | (at_builtin;refine Qas rfl _ _ 75 rfl w.heap.size 3 i0 (.int .i64 0) 8 Tryz.underlying75 hi hz0 hz1 hz2 rfl (.slice A2 j c2) j (digV .i64 os) rfl hownd (.int .i64 ((p:Int)-(q:Int)-(br:Int))) rfl rfl (by unfold maxLen;omega) (by omega) hzd ?_;intro A3 c3 w2 hown2 hg2;have hX2:=Qam hXd hownd hg2 (by decide);have hY2:=Qam hYd hownd hg2 (by decide);have hR2:=Qam hRd hownd hg2 (by decide);have hO2:=Qam hOd hownd hg2 (by decide);have hB2:=hBd.grown hg2 hzd (own_ge hownd);clear hg2;have hbx:=box2 hO2;obtain ⟨z0,z1,z2,z3,z4⟩:=hbx))
    go_roundw
    case rel=>
     obtain ⟨g1,g3⟩:=HSR.out
     have hos:=HO.out
     have e1:((p:Int)-(q:Int)-(br:Int))=((dig B6 br p q:Nat):Int):=by unfold dig B6;split<;>omega
     have e2:bor br p q=0:=by unfold bor;rw [if_neg (by omega)]
     rw [e1,<- QaS] at hown2
     rw [e2] at g3
     exact ⟨j+1,0,os++[dig B6 br p q],A3,c3,by omega,by go_num,by go_num,by simp [hos],by omega,g1,g3,
      Qaf hX2 (by dsimp only;omega) _,Qaf hY2 (by dsimp only;omega) _,Qaf hR2 (by dsimp only;omega) _,by have:=Qae hO2 1 (.slice A3 (j+1) c3);simpa using this,Qbm hown2 hO2 (by decide) _,hB2.setCell (by dsimp only;omega) _⟩
    case measure=>simp [intOf];omega
  ·obtain rfl:j=k:=by omega
   go_wp2_with fail
   refine (Qb4 os t A2 j c2 _ (Dig.of_own hown) (Qal hown).1 (Qal hown).2).mono ?_
   rintro e w2 ⟨hb2,kk,hkk,htk,rfl⟩
   have hR2:=Qaa hR hb2
   obtain ⟨g0,g1,g2,g3,g4⟩:=box2 hR2
   go_wp2
   have hd0:=(Dig.of_own hown).below hb2
   have hve:=diff_end6 (by rw [HM.out];exact Nat.le_refl _) (by rw [HO.out]) (Nat.le_of_lt_succ (by have:=HLT.out;omega)) gos gl nl gm HV.out
   refine bodyPost_ret (v:=.agg #[.bool (t&&decide (0<kk)),.slice A2 kk c2]) (by simp [results,Tryz.results80,go_sem,g0,g1]) rfl ⟨_,_,_,_,rfl,Big.box2 (K:=.i64) ⟨trim os,htk ▸ hd0.take hkk,?_,(Qal hown).2,Qa3 gos,Qa2 _,?_,?_⟩ hR2 (by decide) _ _,((Qab hb2 hB hz).setCell (by dsimp only;omega) _).setCell (by dsimp only;omega) _⟩
   ·have:=(Qal hown).1;omega
   ·exact trim_ne0 htk hkk HO.out
   ·exact diff_sg_swap HST.out htk hve (by have:=HLT.out;omega)
theorem plus_diff_keep (w:World) {s t:Bool} {A B:Option Addr} {n c k d:Nat} {x y:Int} (ha:Big .i64 3 B6 w s A n c x) (hb:Big .i64 3 B6 w t B k d y) (sx:Small x) (sy:Small y) (hst:s≠t) (hlt:¬ x.natAbs<y.natAbs) :
  Calls Tryz.prog 80 #[.agg #[.bool s,.slice A n c],.agg #[.bool t,.slice B k d]] w (Makes .i64 3 B6 w (x+y)):=by
 obtain ⟨l,hd,hnc,hcm,gl,nl,hs,rfl⟩:=ha
 obtain ⟨m,he,hkd,hdm,gm,nm,ht,rfl⟩:=hb
 obtain ⟨i0,hi,hz0,hz1,hz2⟩:=info_parts Tryz.info3
 have hl:=hd.1
 have hm:=he.1
 have h1:=QaQ nl sx
 have h2:=QaQ nm sy
 have HL:=Hd hl;have HM:=Hd hm
 rw [hl] at h1
 rw [hm] at h2
 rw [Qau,Qau] at hlt
 have HLT:=Hd hlt;have HST:=Hd hst
 have hst':(s !=t)=true:=by simpa using hst
 have hst2:(s==t)=false:=by simpa using hst
 clear hl hm hlt hst
 go_enter Tryz.func80,Tryz.ntmps80
 go_wp2_with fail
 generalize hw1:((w.alloc (Obj.cells #[Value.bool s,Value.slice A n c] 77)).alloc (Obj.cells #[Value.bool t,Value.slice B k d] 77)).alloc (Obj.cells #[Value.bool false,Value.slice none 0 0] 77)=w1
 obtain ⟨hX,hY,hR,hB⟩:=boxes3 _ _ _ _ _ _ _ _ _ _ w1 hw1
 have hz1:w1.heap.size=w.heap.size+1+1+1:=by rw [<- hw1];simp
 clear hw1
 obtain ⟨x0,x1,x2,x3,x4⟩:=box2 hX
 obtain ⟨y0,y1,y2,y3,y4⟩:=box2 hY
 refine (sizes_r l m A B n c k d _ (hd.below hB) hnc hcm (he.below hB) hkd hdm gl gm nl nm).mono ?_
 rintro e w2 ⟨r,rfl,hr,q,rfl⟩
 have hr0:¬ r<0:=by have:=HLT.out;have:=hr.1;omega
 clear hr
 have hXd:(w1.drewN q).heap[w.heap.size]?=some (.cells #[.bool s,.slice A n c] 77 (0,0)):=by exact hX
 have hYd:(w1.drewN q).heap[w.heap.size+1]?=some (.cells #[.bool t,.slice B k d] 77 (0,0)):=by exact hY
 have hRd:(w1.drewN q).heap[w.heap.size+1+1]?=some (.cells #[.bool false,.slice none 0 0] 77 (0,0)):=by exact hR
 have hBd:Below w.heap.size w (w1.drewN q):=below_drewN hB q
 have hzd:(w1.drewN q).heap.size=w.heap.size+1+1+1:=by exact hz1
 generalize w1.drewN q=wd at *
 clear hX hY hR hB hz1 x0 x1 x2 x3 x4 y0 y1 y2 y3 y4
 obtain ⟨x0,x1,x2,x3,x4⟩:=box2 hXd
 obtain ⟨y0,y1,y2,y3,y4⟩:=box2 hYd
 go_wp2_with fail
 have hX:(wd.alloc (.cells #[.bool s,.slice none 0 0] 77)).heap[w.heap.size]?=some (.cells #[.bool s,.slice A n c] 77 (0,0)):=Qad hXd _
 have hY:(wd.alloc (.cells #[.bool s,.slice none 0 0] 77)).heap[w.heap.size+1]?=some (.cells #[.bool t,.slice B k d] 77 (0,0)):=Qad hYd _
 have hR:(wd.alloc (.cells #[.bool s,.slice none 0 0] 77)).heap[w.heap.size+1+1]?=some (.cells #[.bool false,.slice none 0 0] 77 (0,0)):=Qad hRd _
 have hO:(wd.alloc (.cells #[.bool s,.slice none 0 0] 77)).heap[w.heap.size+1+1+1]?=some (.cells #[.bool s,.slice none 0 0] 77 (0,0)):=Qac _ _ hzd.symm
 have hB:Below w.heap.size w (wd.alloc (.cells #[.bool s,.slice none 0 0] 77)):=hBd.alloc (by omega) _
 generalize wd.alloc (.cells #[.bool s,.slice none 0 0] 77)=ws at hX hY hR hO hB ⊢
 clear hXd hYd hRd hBd hzd x0 x1 x2 x3 x4 y0 y1 y2 y3 y4
 go_loopw [6,32] (fun bv iv wr=>∃ (j br:Nat) (os:List Nat) (A2:Option Addr) (c2:Nat),j<=n/\bv=.int .i64 br/\iv=.int .i64 j/\os.length=j/\br<=1/\Digs B6 os/\val B6 (l.take j)+B6 ^ j*br=val B6 os+val B6 (m.take j) /\
   wr.heap[w.heap.size]?=some (.cells #[.bool s,.slice A n c] 77 (0,0))/\wr.heap[w.heap.size+1]?=some (.cells #[.bool t,.slice B k d] 77 (0,0))/\wr.heap[w.heap.size+1+1]?=some (.cells #[.bool false,.slice none 0 0] 77 (0,0)) /\
   wr.heap[w.heap.size+1+1+1]?=some (.cells #[.bool s,.slice A2 j c2] 77 (0,0))/\wr.ownsRow w.heap.size 3 1 (.slice A2 j c2) j (digV .i64 os)/\Below w.heap.size w wr) (fun _ iv _=>n-(intOf iv).toNat)
 case atStart=>exact ⟨0,0,[],none,0,by omega,rfl,rfl,rfl,by omega,Digs.nil _,by simp [val],hX,hY,hR,hO,World.ownsRow_nil _ _ _ _,hB⟩
 case round=>
  clear hX hY hR hO hB ws
  obtain ⟨j,br,os,A2,c2,hj,rfl,rfl,hos,hbr,gos,hval,hX,hY,hR,hO,hown,hB⟩:=hrel
  have HV:=Hd hval;have HO:=Hd hos;clear hval hos
  obtain ⟨x0,x1,-,-,-⟩:=box2 hX
  obtain ⟨y0,y1,-,-,-⟩:=box2 hY
  obtain ⟨r0,r1,r2,r3,r4⟩:=box2 hR
  obtain ⟨o0,o1,o2,o3,o4⟩:=box2 hO
  have hz:=hB.size
  by_cases hjN:j<n
  ·have b1:=QaU gl (by decide) j
   have b2:=QaU gm (by decide) j
   unfold B6 at b1 b2
   have hew:=he.below hB
   have her:∀ x,Calls Tryz.prog 143 #[.slice B k d,.int .i64 j] (wr.drewN x) fun e w'=>e=.returned (.int .i64 (dg m j:Nat))/\w'=wr.drewN x:=fun x=>(digit_c m B k d j (wr.drewN x) hew (by omega)).mono fun _ _ h=>⟨h.2,h.1.symm⟩
   obtain ⟨g,rfl,hg,hcell⟩:=hd.at_ (by omega)
   have hx:=(hB.cell (p:=⟨g,j,none⟩) hg).trans (hcell j hjN)
   clear hcell
   have hjI:(j:Int)<(n:Int):=by omega
   go_wp2_with fail
   go_quiet ((go_at_call 143;exact Calls.quiet_of_same (her _)))
   clear her hew x0 x1 y0 y1 r0 r1 r2 r3 r4 o0 o1 o2 o3 o4 hx
   have hXd:(wr.drewN nq).heap[w.heap.size]?=some (.cells #[.bool s,.slice (some ⟨g,0,none⟩) n c] 77 (0,0)):=by exact hX
   have hYd:(wr.drewN nq).heap[w.heap.size+1]?=some (.cells #[.bool t,.slice B k d] 77 (0,0)):=by exact hY
   have hRd:(wr.drewN nq).heap[w.heap.size+1+1]?=some (.cells #[.bool false,.slice none 0 0] 77 (0,0)):=by exact hR
   have hOd:(wr.drewN nq).heap[w.heap.size+1+1+1]?=some (.cells #[.bool s,.slice A2 j c2] 77 (0,0)):=by exact hO
   have hownd:(wr.drewN nq).ownsRow w.heap.size 3 1 (.slice A2 j c2) j (digV .i64 os):=by exact hown
   have hBd:Below w.heap.size w (wr.drewN nq):=below_drewN hB nq
   generalize wr.drewN nq=wd at *
   clear hX hY hR hO hown hB hz
   have hzd:=hBd.size
   obtain ⟨o0,o1,o2,o3,o4⟩:=box2 hOd
   have HSR:=Hd (diff_rel6 HO.out HV.out gos hbr gl gm)
   obtain ⟨p,hp⟩:=ex_ (dg l j)
   obtain ⟨q,hq⟩:=ex_ (dg m j)
   rw [hp] at b1
   rw [hq] at b2
   rw [hp,hq] at HSR
   rw [hp,hq]
   clear hp hq
   by_cases hneg:(p:Int)-(q:Int)-(br:Int)<0
   ·go_wp2_with (first
     | (at_builtin;refine Qas rfl _ _ 75 rfl w.heap.size 3 i0 (.int .i64 0) 8 Tryz.underlying75 hi hz0 hz1 hz2 rfl (.slice A2 j c2) j (digV .i64 os) rfl hownd (.int .i64 ((p:Int)-(q:Int)-(br:Int)+1000000)) rfl rfl (by unfold maxLen;omega) (by omega) hzd ?_;intro A3 c3 w2 hown2 hg2;have hX2:=Qam hXd hownd hg2 (by decide);have hY2:=Qam hYd hownd hg2 (by decide);have hR2:=Qam hRd hownd hg2 (by decide);have hO2:=Qam hOd hownd hg2 (by decide);have hB2:=hBd.grown hg2 hzd (own_ge hownd);clear hg2;have hbx:=box2 hO2;obtain ⟨z0,z1,z2,z3,z4⟩:=hbx))
    go_roundw
    case rel=>
     obtain ⟨g1,g3⟩:=HSR.out
     have hos:=HO.out
     have e1:((p:Int)-(q:Int)-(br:Int)+1000000)=((dig B6 br p q:Nat):Int):=by unfold dig B6;split<;>omega
     have e2:bor br p q=1:=by unfold bor;rw [if_pos (by omega)]
     rw [e1,<- QaS] at hown2
     rw [e2] at g3
     exact ⟨j+1,1,os++[dig B6 br p q],A3,c3,by omega,by go_num,by go_num,by simp [hos],by omega,g1,g3,
      Qaf hX2 (by dsimp only;omega) _,Qaf hY2 (by dsimp only;omega) _,Qaf hR2 (by dsimp only;omega) _,by have:=Qae hO2 1 (.slice A3 (j+1) c3);simpa using this,Qbm hown2 hO2 (by decide) _,hB2.setCell (by dsimp only;omega) _⟩
    case measure=>simp [intOf];omega
   ·go_wp2_with (first
     | (at_builtin;refine Qas rfl _ _ 75 rfl w.heap.size 3 i0 (.int .i64 0) 8 Tryz.underlying75 hi hz0 hz1 hz2 rfl (.slice A2 j c2) j (digV .i64 os) rfl hownd (.int .i64 ((p:Int)-(q:Int)-(br:Int))) rfl rfl (by unfold maxLen;omega) (by omega) hzd ?_;intro A3 c3 w2 hown2 hg2;have hX2:=Qam hXd hownd hg2 (by decide);have hY2:=Qam hYd hownd hg2 (by decide);have hR2:=Qam hRd hownd hg2 (by decide);have hO2:=Qam hOd hownd hg2 (by decide);have hB2:=hBd.grown hg2 hzd (own_ge hownd);clear hg2;have hbx:=box2 hO2;obtain ⟨z0,z1,z2,z3,z4⟩:=hbx))
    go_roundw
    case rel=>
     obtain ⟨g1,g3⟩:=HSR.out
     have hos:=HO.out
     have e1:((p:Int)-(q:Int)-(br:Int))=((dig B6 br p q:Nat):Int):=by unfold dig B6;split<;>omega
     have e2:bor br p q=0:=by unfold bor;rw [if_neg (by omega)]
     rw [e1,<- QaS] at hown2
     rw [e2] at g3
     exact ⟨j+1,0,os++[dig B6 br p q],A3,c3,by omega,by go_num,by go_num,by simp [hos],by omega,g1,g3,
      Qaf hX2 (by dsimp only;omega) _,Qaf hY2 (by dsimp only;omega) _,Qaf hR2 (by dsimp only;omega) _,by have:=Qae hO2 1 (.slice A3 (j+1) c3);simpa using this,Qbm hown2 hO2 (by decide) _,hB2.setCell (by dsimp only;omega) _⟩
    case measure=>simp [intOf];omega
  ·obtain rfl:j=n:=by omega
   go_wp2_with fail
   refine (Qb4 os s A2 j c2 _ (Dig.of_own hown) (Qal hown).1 (Qal hown).2).mono ?_
   rintro e w2 ⟨hb2,kk,hkk,htk,rfl⟩
   have hR2:=Qaa hR hb2
   obtain ⟨g0,g1,g2,g3,g4⟩:=box2 hR2
   go_wp2
   have hd0:=(Dig.of_own hown).below hb2
   have hve:=diff_end6 (by rw [HL.out];exact Nat.le_refl _) (by rw [HO.out]) (Nat.le_of_lt_succ (by have:=HLT.out;omega)) gos gm nm gl HV.out
   refine bodyPost_ret (v:=.agg #[.bool (s&&decide (0<kk)),.slice A2 kk c2]) (by simp [results,Tryz.results80,go_sem,g0,g1]) rfl ⟨_,_,_,_,rfl,Big.box2 (K:=.i64) ⟨trim os,htk ▸ hd0.take hkk,?_,(Qal hown).2,Qa3 gos,Qa2 _,?_,?_⟩ hR2 (by decide) _ _,((Qab hb2 hB hz).setCell (by dsimp only;omega) _).setCell (by dsimp only;omega) _⟩
   ·have:=(Qal hown).1;omega
   ·exact trim_ne0 htk hkk HO.out
   ·exact diff_sg_keep HST.out htk hve (by have:=HLT.out;omega)
theorem plus_r (w:World) {s t:Bool} {A B:Option Addr} {n c k d:Nat} {x y:Int} (ha:Big .i64 3 B6 w s A n c x) (hb:Big .i64 3 B6 w t B k d y) (sx:Small x) (sy:Small y) :
  Calls Tryz.prog 80 #[.agg #[.bool s,.slice A n c],.agg #[.bool t,.slice B k d]] w (Makes .i64 3 B6 w (x+y)):=by
 by_cases hst:s=t
 ·subst hst;exact plus_same_r w ha hb sx sy
 ·by_cases hlt:x.natAbs<y.natAbs
  ·exact plus_diff_swap w ha hb sx sy hst hlt
  ·exact plus_diff_keep w ha hb sx sy hst hlt
end Go.Proofs.YtaiabjiehpcaoaaGreatDoor
