/- The walk of package whole: By. The walks of package whole: Odd, Int, Power. The walk of package whole: Power. -/
import Derived.Test.YtbfbgappinilmaaGreatDoorW6
import Derived.Deep.RegionWith
import Derived.Test.YtbfbgappinilmaaGreatDoorU2
-- merged: W7 W8 W9 A1
namespace Go.Proofs.YtbfbgappinilmaaGreatDoor
open Go.RowKit Limb
theorem boxes4 (w:World) (x0 x1 y0 y1 z0 z1 u0 u1:Value) (T U V X:TypeId):∀ w3,(((w.alloc (.cells #[x0,x1] T)).alloc (.cells #[y0,y1] U)).alloc (.cells #[z0,z1] V)).alloc (.cells #[u0,u1] X)=w3 ->
  w3.heap[w.heap.size]?=some (.cells #[x0,x1] T (0,0))/\w3.heap[w.heap.size+1]?=some (.cells #[y0,y1] U (0,0))/\w3.heap[w.heap.size+1+1]?=some (.cells #[z0,z1] V (0,0))/\w3.heap[w.heap.size+1+1+1]?=some (.cells #[u0,u1] X (0,0))/\Below w.heap.size w w3:=by
 intro w3 hw
 subst hw
 obtain ⟨h1,h2,h3,h4⟩:=boxes3 w x0 x1 y0 y1 z0 z1 T U V _ rfl
 exact ⟨heap_old h1 _,heap_old h2 _,heap_old h3 _,heap_new _ _ (by simp),h4.alloc h4.size _⟩
def Makes2 (K:IntKind) (E:TypeId) (b:Nat) (w:World) (x y:Int) (e:Ending) (w':World):Prop :=
 ∃ s A n c t B k d,e=.returned (.tuple #[.agg #[.bool s,.slice A n c],.agg #[.bool t,.slice B k d]])/\Big K E b w' s A n c x/\Big K E b w' t B k d y/\Below w.heap.size w w'
theorem set_bit32 {q:List Nat} {i t:Nat} (h:Digs B32 q) (hQ:val B32 q=2 ^ (i+1)*t) (hi:i/32<q.length) :
  val B32 (q.set (i/32) (dg q (i/32) ||| 2 ^ (i%32)))=2 ^ i*(2*t+1):=set_bit (q:=q) h hQ hi
theorem val_bit32 {l:List Nat} (h:Digs B32 l) (i:Nat):dg l (i/32)/2 ^ (i%32)%2=val B32 l/2 ^ i%2:=val_bit (l:=l) h i
theorem rest_bit {l rs os:List Nat} {j:Nat} (gl:Digs B32 l) (gos:Digs B32 os) (hval:val B32 os=val B32 rs+val B32 rs) :
  bits .or .u32 ((dg os 0:Nat):Int) (bits .and .u32 (((dg l (j/32):Nat):Int)/2 ^ (j%32)) 1)=((dg os 0+val B32 l/2 ^ j%2:Nat):Int):=by
 have h1:dg l (j/32)<4294967296:=dg_lt gl (by decide) _
 have h2:dg os 0<4294967296:=dg_lt gos (by decide) _
 have e0:((dg l (j/32):Nat):Int)/2 ^ (j%32)=((dg l (j/32)/2 ^ (j%32):Nat):Int):=by
  rw [Int.natCast_ediv,Int.natCast_pow];rfl
 have h3:dg l (j/32)/2 ^ (j%32)<4294967296:=Nat.lt_of_le_of_lt (Nat.div_le_self _ _) h1
 rw [e0]
 have e1:=u32_and_nat (dg l (j/32)/2 ^ (j%32)) 1 h3 (by omega)
 rw [Nat.and_one_is_mod,val_bit32 gl] at e1
 have e1':bits .and .u32 ((dg l (j/32)/2 ^ (j%32):Nat):Int) 1=((val B32 l/2 ^ j%2:Nat):Int):=e1
 rw [e1',u32_or_nat _ _ h2 (by omega)]
 have h4:dg os 0%2=0:=by
  have:=val_digit (b:=B32) (by decide) gos 0
  rw [Nat.pow_zero,Nat.div_one] at this
  have h5:dg os 0=val B32 os%B32:=this.symm
  rw [h5,hval]
  unfold B32
  omega
 rw [or_bit h4 (by omega)]
theorem val_set0 {os:List Nat} {c:Nat} (h:0<os.length):val B32 (os.set 0 (dg os 0+c))=val B32 os+c:=by
 have:=val_set B32 os 0 (dg os 0+c) h
 rw [Nat.pow_zero,Nat.one_mul,Nat.one_mul] at this
 have e:os.getD 0 0=dg os 0:=rfl
 omega
theorem quot_bit {q:List Nat} {i t:Nat} (h:Digs B32 q) (_hQ:val B32 q=2 ^ (i+1)*t) :
  bits .or .u32 ((dg q (i/32):Nat):Int) (2 ^ (i%32)%4294967296)=((dg q (i/32) ||| 2 ^ (i%32):Nat):Int)/\dg q (i/32) ||| 2 ^ (i%32)<4294967296:=by
 have h1:dg q (i/32)<4294967296:=dg_lt h (by decide) _
 have h2:2 ^ (i%32)<4294967296:=Nat.lt_of_lt_of_le (Nat.pow_lt_pow_right (a:=2) (by omega) (Nat.mod_lt i (by omega:0<32))) (by decide)
 have e:(2:Int) ^ (i%32)%4294967296=((2 ^ (i%32):Nat):Int):=by
  have e1:(2:Int) ^ (i%32)=((2 ^ (i%32):Nat):Int):=by rw [Int.natCast_pow];rfl
  rw [e1];generalize 2 ^ (i%32)=X at *;omega
 rw [e]
 exact ⟨u32_or_nat _ _ h1 h2,or_lt h1 (Nat.mod_lt i (by omega))⟩
theorem by_less {A b T r q0 bit j Q:Nat} (h:A/2 ^ (j+1)=T*b+r/\Q=2 ^ (j+1)*T) (hb:bit=A/2 ^ j%2) (hr:q0=2*r+bit):A/2 ^ j=2*T*b+q0/\Q=2 ^ j*(2*T):=by
 subst hr;subst hb
 exact div_step h.1 h.2
theorem by_more {A b T r q0 bit j Q:Nat} (h:A/2 ^ (j+1)=T*b+r/\Q=2 ^ (j+1)*T) (hb:bit=A/2 ^ j%2) (hr:q0=2*r+bit) (hle:b<=q0):A/2 ^ j=(2*T+1)*b+(q0-b):=by
 have h1:=(by_less h hb hr).1
 rw [Nat.add_mul,Nat.one_mul]
 omega
theorem by_end {A b T r:Nat} (h:A/2 ^ 0=T*b+r) (hr:r<b):A/b=T/\A%b=r:=by
 rw [Nat.pow_zero,Nat.div_one] at h
 subst h
 constructor
 ·rw [Nat.mul_comm,Nat.mul_add_div (by omega),Nat.div_eq_of_lt hr,Nat.add_zero]
 ·rw [Nat.mul_comm,Nat.mul_add_mod,Nat.mod_eq_of_lt hr]
theorem by_start {l:List Nat} {n b:Nat} (gl:Digs B32 l) (hl:l.length=n):val B32 l/2 ^ (n*32)=0*b+val B32 []:=by
 have h:=val_lt gl
 rw [hl] at h
 have e:B32 ^ n=2 ^ (n*32):=by
  rw [Nat.mul_comm,Nat.pow_mul];rfl
 rw [e] at h
 rw [Nat.div_eq_of_lt h];simp [val]
set_option maxHeartbeats 4000000 in
set_option maxRecDepth 100000 in
theorem by_c (w:World) {s t:Bool} {A B:Option Addr} {n c k d:Nat} {x y:Int} (ha:Big .u32 127 B32 w s A n c x) (hb:Big .u32 127 B32 w t B k d y) (sx:Small x) (sy:Small y) (hy0:y≠0) :
  Calls Tryz.prog 123 #[.agg #[.bool s,.slice A n c],.agg #[.bool t,.slice B k d]] w (Makes2 .u32 127 B32 w ((x.natAbs/y.natAbs:Nat):Int) ((x.natAbs%y.natAbs:Nat):Int)):=by
 obtain ⟨l,hd,hnc,hcm,gl,nl,sl,hx⟩:=ha
 obtain ⟨m,he,hkd,hdm,gm,nm,sm,hy⟩:=hb
 have hn:n<=1000:=by rw [<- hd.1];rw [hx] at sx;have:=small_len32 nl sx;omega
 have hk:k<=1000:=by rw [<- he.1];rw [hy] at sy;have:=small_len32 nm sy;omega
 have hxa:x.natAbs=val B32 l:=by rw [hx,sg_natAbs]
 have hya:y.natAbs=val B32 m:=by rw [hy,sg_natAbs]
 have hm0:0<val B32 m:=by omega
 rw [hxa,hya]
 have HL:=Lib.hid hd.1;have HM:=Lib.hid he.1;have HP:=Lib.hid hm0
 clear sx sy hx hy hxa hya hy0 hm0
 obtain ⟨i0,hi,hz0,hz1,hz2⟩:=info_parts Tryz.info127
 go_enter Tryz.func123,Tryz.ntmps123
 go_wp2_with (first
  | (at_make
     refine wpList_make_full _ rfl _ _ 71 rfl (w.heap.size+1+1+1+1) 127 i0 (.int .u32 0) 1 Tryz.underlying71 hi hz0 hz1 .i64 .i64 _ _ n rfl rfl (by omega) (by omega) (by rw [hz2];omega) (by unfold maxLen;omega) (by simp) ?_
     intro w4 hown1 hg1
     obtain ⟨hB1,hB2,hB3,hB4,hbel⟩:=boxes4 w (.bool s) (.slice A n c) (.bool t) (.slice B k d) (.bool false) (.slice none 0 0) (.bool false) (.slice none 0 0) 73 73 73 73 _ rfl
     have hb4:=(Below.refl _ _).grown hg1 (Nat.le_refl _) (fun _ h=>by cases h)
     have hbw:=below_then hb4 hbel hbel.size
     have hD1:=heap_below hB1 hb4
     have hD2:=heap_below hB2 hb4
     have hD3:=heap_below hB3 hb4
     have hD4:=heap_below hB4 hb4
     clear hb4 hB1 hB2 hB3 hB4
     simp only [World.size_alloc] at hown1
     clear hg1 hbel
     obtain ⟨c10,c11,-,-,z1⟩:=box2 hD1
     obtain ⟨c20,c21,-,-,z2⟩:=box2 hD2
     obtain ⟨-,-,-,-,z3⟩:=box2 hD3
     obtain ⟨-,-,-,-,z4⟩:=box2 hD4))
 rw [show (madeCells (Value.int .u32 0).cells (n*1)).toList=digV .u32 (List.replicate n 0) by rw [Nat.mul_one];exact made_zeros _] at hown1
 have hz5:=(hown1.lt _ rfl).2
 go_loopw [7,8] (fun r i wr=>∃ (j T:Nat) (qs rs:List Nat) (R:Option Addr) (rc:Nat),j<=n*32/\i=.int .i64 ((j:Int)-1)/\r=.slice R rs.length rc/\wr.ownsRow (w.heap.size+1+1+1+1+1) 127 1 (.slice R rs.length rc) rs.length (digV .u32 rs)/\Digs B32 rs/\Norm rs /\
   wr.ownsRow (w.heap.size+1+1+1+1) 127 1 (.slice (some ⟨w.heap.size+1+1+1+1,0,none⟩) n n) n (digV .u32 qs)/\Digs B32 qs/\val B32 l/2 ^ j=T*val B32 m+val B32 rs/\val B32 rs<val B32 m/\val B32 qs=2 ^ j*T/\Below (w.heap.size+1+1+1+1) w4 wr)
  (fun _ i _=>(intOf i+1).toNat)
 case atStart=>exact ⟨n*32,0,List.replicate n 0,[],none,0,Nat.le_refl _,by go_num,rfl,World.ownsRow_nil _ _ _ _,Digs.nil _,norm_nil,hown1,digs_zeros (by decide) _,by_start gl HL.out,HP.out,by rw [val_zeros];simp,Below.refl _ _⟩
 case round=>
  obtain ⟨j,T,qs,rs,R,rc,hj,rfl,rfl,hownr,grs,nrs,hownq,gqs,hdiv,hlt,hq,hbel⟩:=hrel
  have HA:=Lib.hid (And.intro hdiv hq);have HT:=Lib.hid hlt;clear hdiv hq hlt
  have hsz:=hbel.size
  rcases j with _ | j
  ·have hql:qs.length=n:=by have:=hownq.1;rw [digV_length] at this;omega
   go_wp2_with fail
   refine (made_c qs false _ n n _ (Dig.of_own hownq) (own_cap hownq).1 (own_cap hownq).2 gqs).mono ?_
   rintro e w5 ⟨s5,A5,n5,c5,rfl,hv5,hb5⟩
   go_wp2_with fail
   refine (made_c rs false R rs.length rc _ (Dig.of_own (own_below hownr hb5)) (own_cap hownr).1 (own_cap hownr).2 grs).mono ?_
   rintro e w6 ⟨s6,A6,n6,c6,rfl,hv6,hb6⟩
   have hv5:=hv5.below hb6
   have hF:=(hbel.trans (hb5.mono (by omega))).trans (hb6.mono (B':=w.heap.size+1+1+1+1) (by have:=hb5.size;omega))
   have hE3:=(hF.block (w.heap.size+1+1) (by omega)).trans hD3
   have hE4:=(hF.block (w.heap.size+1+1+1) (by omega)).trans hD4
   obtain ⟨g0,g1,g2,g3,g4⟩:=box2 hE3
   obtain ⟨h0,h1,h2,h3,h4⟩:=box2 hE4
   go_wp2
   refine bodyPost_ret (v:=.tuple #[.agg #[.bool s5,.slice A5 n5 c5],.agg #[.bool s6,.slice A6 n6 c6]]) (by simp [results,Tryz.results123,go_sem,g0,g1,h0,h1]) rfl ?_
   have hE:=by_end (by rw [<- HA.out.1]) HT.out
   have hQ:val B32 qs=T:=by have:=HA.out.2;rw [Nat.pow_zero,Nat.one_mul] at this;exact this
   have hE4':=heap_far (heap_far hE4 (p:=⟨w.heap.size+1+1,0,none⟩) (by simp) (.bool s5)) (p:=⟨w.heap.size+1+1,1,none⟩) (by simp) (.slice A5 n5 c5)
   refine ⟨s5,A5,n5,c5,s6,A6,n6,c6,rfl,?_,?_,?_⟩
   ·have e:((val B32 l/val B32 m:Nat):Int)=sg false (val B32 qs):=by rw [hE.1,hQ];rfl
    rw [e]
    exact (hv5.box2 hE3 (by decide) _ _).box2 hE4' (by decide) _ _
   ·have e:((val B32 l%val B32 m:Nat):Int)=sg false (val B32 rs):=by rw [hE.2];rfl
    rw [e]
    exact (hv6.box2 hE3 (by decide) _ _).box2 hE4' (by decide) _ _
   ·go_grown
    exact hbw.trans (hF.mono (by omega))
  ·have e:((j+1:Nat):Int)-1=(j:Int):=by omega
   rw [e]
   obtain ⟨g,rfl,hg,hc1⟩:=hd.at_ (by omega)
   have hxl:=((hbel.cell (p:=⟨g,j/32,none⟩) (by dsimp only;omega)).trans (hbw.cell (p:=⟨g,j/32,none⟩) hg)).trans (hc1 (j/32) (by omega))
   have e11:=(hbel.cell (p:=⟨w.heap.size,1,none⟩) (by dsimp only;omega)).trans c11
   have e21:=(hbel.cell (p:=⟨w.heap.size+1,1,none⟩) (by dsimp only;omega)).trans c21
   have b1:dg l (j/32)<4294967296:=dg_lt gl (by decide) _
   clear hc1
   have hrl:rs.length<=1000:=by
    have:=len_of_val (b:=B32) (by decide) gm nrs (Nat.le_of_lt HT.out)
    rw [HM.out] at this;omega
   go_wp2_with fail
   refine (sum_c rs rs R R rs.length rc rs.length rc _ (Dig.of_own hownr) (Dig.of_own hownr) grs grs hrl hrl).mono ?_
   rintro e w5 ⟨v,os,rfl,hrow,ho1,ho2,gos,hval,hb5⟩
   obtain ⟨R1,rc1,rfl⟩:=hrow.slice
   have HV:=Lib.hid hval;clear hval
   obtain ⟨g5,rfl,hg5,hcell5⟩:=(Dig.of_own hrow).at_ ho1
   have hr0:=hcell5 0 ho1
   have hfr:=hrow.frozenAt 0
   clear hcell5
   have hxl:=(hb5.cell (p:=⟨g,j/32,none⟩) (by dsimp only;omega)).trans hxl
   have e11:=(hb5.cell (p:=⟨w.heap.size,1,none⟩) (by dsimp only;omega)).trans e11
   have e21:=(hb5.cell (p:=⟨w.heap.size+1,1,none⟩) (by dsimp only;omega)).trans e21
   have b2:dg os 0<4294967296:=dg_lt gos (by decide) _
   have i1:(0:Int)<=(j:Int)/32:=by omega
   have i2:(j:Int)/32<(n:Int):=by omega
   have i3:(0:Int)<(os.length:Int):=by omega
   go_wp2_with fail
   go_region
   rw [rest_bit (rs:=rs) gl gos HV.out]
   have hown5:=row_store hrow 0 (X:=((dg os 0+val B32 l/2 ^ j%2:Nat):Int)) rfl
   have hg5':=(hrow.lt g5 rfl).1
   have hq5:=own_far (own_below hownq hb5) (a:=⟨g5,0,none⟩) (by simp;omega) (.int .u32 ((dg os 0+val B32 l/2 ^ j%2:Nat):Int))
   have hb6:Below (w.heap.size+1+1+1+1) w4 (w5.setCell ⟨g5,0,none⟩ (.int .u32 ((dg os 0+val B32 l/2 ^ j%2:Nat):Int))):=(hbel.trans (hb5.mono (by omega))).setCell (by simp;omega) _
   have gos':Digs B32 (os.set 0 (dg os 0+val B32 l/2 ^ j%2)):=gos.set 0 (by
    have:=rest_bit (j:=j) gl gos HV.out
    have h4:dg os 0%2=0:=by
     have:=val_digit (b:=B32) (by decide) gos 0
     rw [Nat.pow_zero,Nat.div_one] at this
     have h5:dg os 0=val B32 os%B32:=this.symm
     rw [h5,HV.out]
     unfold B32
     omega
    unfold B32;omega)
   have hval':val B32 (os.set 0 (dg os 0+val B32 l/2 ^ j%2))=2*val B32 rs+val B32 l/2 ^ j%2:=by rw [val_set0 ho1,HV.out];omega
   have hlen':(os.set 0 (dg os 0+val B32 l/2 ^ j%2)).length=os.length:=by simp
   rw [<- hlen'] at hown5 ⊢
   generalize w5.setCell ⟨g5,0,none⟩ (.int .u32 ((dg os 0+val B32 l/2 ^ j%2:Nat):Int))=w6 at hown5 hq5 hb6 ⊢
   generalize os.set 0 (dg os 0+val B32 l/2 ^ j%2)=os6 at hown5 gos' hval' hlen' ⊢
   have HV6:=Lib.hid hval'
   have hz6:=hb6.size
   have ho6:os6.length<=1001:=by omega
   clear hval' hlen' HV hrow hr0 hfr hxl e11 e21 hb5 hownr hownq hbel b2 i3 gos ho1 ho2
   go_wp2_with fail
   refine (trimmed_c os6 _ _ _ _ (Dig.of_own (w:=w6.drew) hown5) (own_cap hown5).1 (own_cap hown5).2).mono ?_
   rintro e w' ⟨rfl,kk,hk2,ht,rfl⟩
   have hown6:=own_take hown5 hk2
   rw [<- ht] at hown6
   have hlt6:(trim os6).length=kk:=by rw [ht,List.length_take];omega
   have nrs6:=norm_trim os6
   have grs6:=digs_trim gos'
   have HV7:Hid (val B32 (trim os6)=2*val B32 rs+val B32 l/2 ^ j%2):=Lib.hid (by rw [val_trim];exact HV6.out)
   clear HV6 ht hown5 gos'
   subst hlt6
   generalize trim os6=r6 at *
   have e21:=(hb6.cell (p:=⟨w.heap.size+1,1,none⟩) (by dsimp only;omega)).trans c21
   go_wp2_with fail
   have hr6:r6.length<=2000:=by omega
   have he6:Dig w6 .u32 127 B k m:=he.keep fun g' cs' hg'=>(hb6.block g' (by have:=lt_heap hg';omega)).trans (heap_below hg' hbw)
   refine (compare_c r6 m _ B r6.length rc1 k d _ (Dig.of_own (w:=w6.drew) hown6) (own_cap hown6).1 (own_cap hown6).2 (by exact he6) hkd hdm grs6 gm nrs6 nm).mono ?_
   rintro e w7 ⟨rr,rfl,hrr,q7,rfl⟩
   rcases Nat.lt_or_ge (val B32 r6) (val B32 m) with hcl | hcl
   ·have hr0:rr<0:=hrr.1.2 hcl
    have HC:=Lib.hid hcl;clear hrr hcl
    go_wp2
    go_roundw
    case rel=>
     have h:=by_less HA.out rfl HV7.out
     exact ⟨j,2*T,qs,r6,_,rc1,by omega,rfl,rfl,own_mono (by exact hown6) (by omega),grs6,nrs6,by exact hq5,gqs,h.1,HC.out,h.2,below_drewN hb6 _⟩
    case measure=>simp [intOf]
   ·have hr0 : 0 ≤ rr := by have h := hrr.1; have h2 : ¬ rr < 0 := fun h3 => by have := h.1 h3; omega
                            omega
    have hkr:k<=r6.length:=by have:=len_of_val (b:=B32) (by decide) grs6 nm hcl;rw [HM.out] at this;exact this
    have HC:=Lib.hid hcl;clear hrr hcl
    go_wp2_with fail
    refine (less_c r6 m _ B r6.length rc1 k d _ (by exact Dig.of_own (w:=w6.drew) hown6) (by exact he6) grs6 gm hr6 hkr HC.out).mono ?_
    rintro e w8 ⟨v,os,rfl,hrow,gos,nos,hval,hb8⟩
    obtain ⟨R8,rc8,rfl⟩:=hrow.slice
    have HV8:=Lib.hid hval;clear hval
    have hq8:=own_below (w:=w6.drewN (1+q7)) hq5 hb8
    have hb8':Below (w.heap.size+1+1+1+1) w4 w8:=(below_drewN hb6 _).trans (hb8.mono (by show _<=w6.heap.size;omega))
    have hr8:=own_mono (base':=w.heap.size+1+1+1+1+1) hrow (by show _<=w6.heap.size;omega)
    clear hrow hb8 hown6 hq5 hb6 he6 e21 hkr
    have hqc:=row_cell hq8 (p:=j/32) (by omega)
    have hqf:=hq8.frozenAt (j/32)
    have b3:dg qs (j/32)<4294967296:=dg_lt gqs (by decide) _
    go_wp2_with fail
    go_region
    have hb:=quot_bit (i:=j) (t:=T) gqs HA.out.2
    have hq9:=row_store hq8 (j/32) hb.1
    have hr9:=ownsRow_setCell_below hr8 (a:=⟨w.heap.size+1+1+1+1,j/32,none⟩) (by dsimp only;omega) (.int .u32 (bits .or .u32 ((dg qs (j/32):Nat):Int) (2 ^ (j%32)%4294967296)))
    have hb9:=hb8'.setCell (p:=⟨w.heap.size+1+1+1+1,j/32,none⟩) (Nat.le_refl _) (.int .u32 (bits .or .u32 ((dg qs (j/32):Nat):Int) (2 ^ (j%32)%4294967296)))
    generalize w8.setCell ⟨w.heap.size+1+1+1+1,j/32,none⟩ (.int .u32 (bits .or .u32 ((dg qs (j/32):Nat):Int) (2 ^ (j%32)%4294967296)))=w9 at hq9 hr9 hb9 ⊢
    clear hq8 hr8 hb8' hqc hqf
    have HB:=Lib.hid hb;clear hb
    go_wp2
    go_roundw
    case rel=>
     have h:=by_more HA.out rfl HV7.out HC.out
     have hql:qs.length=n:=by have:=hq9.1;rw [digV_length,List.length_set] at this;omega
     refine ⟨j,2*T+1,_,os,R8,rc8,by omega,rfl,rfl,by exact hr9,gos,nos,by exact hq9,gqs.set _ HB.out.2,by rw [HV8.out];exact h,?_,set_bit32 gqs HA.out.2 (by omega),hb9.drew⟩
     rw [HV8.out,HV7.out]
     have h3:=HT.out
     omega
    case measure=>simp [intOf]
def fitB (z:Int) (most:Nat):Bool:=decide (z.natAbs<=most)
def fitV (z:Int) (most:Nat):Int:=if z.natAbs<=most then z else 0
theorem val_len1 {l:List Nat} (h:l.length=1):val B32 l=dg l 0:=by
 match l,h with
 | [a],_=>simp [val,dg]
theorem val_len2 {l:List Nat} (h:l.length=2):val B32 l=dg l 0+4294967296*dg l 1:=by
 match l,h with
 | [a,b],_=>simp [val,dg,B32]
theorem or_one (x:Nat) (h:x<4294967296):bits .or .u64 0 (x:Int)=(x:Int):=by
 have:=u64_or_nat 0 x (by omega) (by omega)
 rw [Nat.zero_or] at this
 exact this
theorem or_two (x y:Nat) (h:x<4294967296) (h2:y<4294967296):bits .or .u64 (x:Int) ((y:Int)*4294967296)=((x+4294967296*y:Nat):Int):=by
 have e:(y:Int)*4294967296=((y*4294967296:Nat):Int):=by rw [Int.natCast_mul];rfl
 have h3:=u64_or_nat x (y*4294967296) (by omega) (by omega)
 have h4:=Nat.two_pow_add_eq_or_of_lt (i:=32) (b:=x) (by omega) y
 rw [Nat.or_comm] at h4
 have e2:2 ^ 32*y=y*4294967296:=by rw [Nat.mul_comm]
 rw [e2] at h4
 rw [e,h3,<- h4]
 congr 1
 omega
set_option maxHeartbeats 1000000 in
set_option maxRecDepth 100000 in
theorem int_c (w:World) {s:Bool} {A:Option Addr} {n c:Nat} {z:Int} (most:Nat) (h:Big .u32 127 B32 w s A n c z) (hm:most<=4611686018427387904) :
  Calls Tryz.prog 98 #[.agg #[.bool s,.slice A n c],.int .i64 (most:Int)] w fun e w'=>e=.returned (.tuple #[.int .i64 (fitV z most),.bool (fitB z most)])/\Below w.heap.size w w':=by
 obtain ⟨l,hd,hnc,hcm,gl,nl,sl,rfl⟩:=h
 rcases Nat.lt_or_ge 2 n with h2 | h2
 ·have hv:most<val B32 l:=by
   have h1:=val_ge (b:=B32) nl (by intro e;have:=hd.1;rw [e] at this;simp at this;omega)
   have h3:B32 ^ 2<=B32 ^ (l.length-1):=Nat.pow_le_pow_right (by decide) (by rw [hd.1];omega)
   have h4:B32 ^ 2=18446744073709551616:=by decide
   omega
  have e1:fitV (sg s (val B32 l)) most=0:=by unfold fitV;rw [sg_natAbs,if_neg (by omega)]
  have e2:fitB (sg s (val B32 l)) most=false:=by unfold fitB;rw [sg_natAbs];simp;omega
  rw [e1,e2]
  clear e1 e2 hv
  go_enter Tryz.func98,Tryz.ntmps98
  go_wp2
  go_ret2
  exact ⟨rfl,by go_grown⟩
 ·have hv:val B32 l<18446744073709551616:=by
   have h1:=val_lt gl
   have h3:B32 ^ l.length<=B32 ^ 2:=Nat.pow_le_pow_right (by decide) (by rw [hd.1];omega)
   have h4:B32 ^ 2=18446744073709551616:=by decide
   omega
  have b0:dg l 0<4294967296:=dg_lt gl (by decide) _
  have b1:dg l 1<4294967296:=dg_lt gl (by decide) _
  have hl:=hd.1
  have h3:n=0∨n=1∨n=2:=by omega
  rcases h3 with rfl | rfl | rfl
  ·have hl0:l=[]:=List.length_eq_zero_iff.1 hl
   subst hl0
   have hs:s=false:=by cases s with | false=>rfl | true=>exact absurd rfl (sl rfl)
   subst hs
   have e1:fitV (sg false (val B32 [])) most=0:=by simp [fitV,sg,val]
   have e2:fitB (sg false (val B32 [])) most=true:=by simp [fitB,sg,val]
   rw [e1,e2]
   have hm0:(0:Int)<=(most:Int):=by omega
   clear e1 e2 hv sl
   go_enter Tryz.func98,Tryz.ntmps98
   go_wp2
   go_rounds 1
   go_ret2
   exact ⟨rfl,by go_grown⟩
  ·obtain ⟨g,rfl,hg,hc1⟩:=hd.at_ (by omega)
   have hx:=(World.cell?_alloc_lt (w:=w) (o:=.cells #[.bool s,.slice (some ⟨g,0,none⟩) 1 c] 73) (a:=⟨g,0,none⟩) hg).trans (hc1 0 (by omega))
   clear hc1
   have u1:bits .or .u64 0 ((dg l 0:Nat):Int)=((val B32 l:Nat):Int):=by rw [val_len1 hl];exact or_one _ b0
   clear hl
   rcases Nat.lt_or_ge most (val B32 l) with hcmp | hcmp
   ·have e1:fitV (sg s (val B32 l)) most=0:=by unfold fitV;rw [sg_natAbs,if_neg (by omega)]
    have e2:fitB (sg s (val B32 l)) most=false:=by unfold fitB;rw [sg_natAbs];simp;omega
    rw [e1,e2]
    clear e1 e2
    have hc':(most:Int)<((val B32 l:Nat):Int):=by omega
    go_enter Tryz.func98,Tryz.ntmps98
    go_wp2
    go_rounds 2
    go_ret2
    exact ⟨rfl,by go_grown⟩
   ·have e1:fitV (sg s (val B32 l)) most=sg s (val B32 l):=by unfold fitV;rw [sg_natAbs,if_pos (by omega)]
    have e2:fitB (sg s (val B32 l)) most=true:=by unfold fitB;rw [sg_natAbs];simp;omega
    rw [e1,e2]
    clear e1 e2
    have hc':¬ (most:Int)<((val B32 l:Nat):Int):=by omega
    cases s with
    | true=>
     go_enter Tryz.func98,Tryz.ntmps98
     go_wp2
     go_rounds 2
     go_ret2
     exact ⟨rfl,by go_grown⟩
    | false=>
     go_enter Tryz.func98,Tryz.ntmps98
     go_wp2
     go_rounds 2
     go_ret2
     exact ⟨rfl,by go_grown⟩
  ·obtain ⟨g,rfl,hg,hc1⟩:=hd.at_ (by omega)
   have hx:=(World.cell?_alloc_lt (w:=w) (o:=.cells #[.bool s,.slice (some ⟨g,0,none⟩) 2 c] 73) (a:=⟨g,0,none⟩) hg).trans (hc1 0 (by omega))
   have hx1:=(World.cell?_alloc_lt (w:=w) (o:=.cells #[.bool s,.slice (some ⟨g,0,none⟩) 2 c] 73) (a:=⟨g,1,none⟩) hg).trans (hc1 1 (by omega))
   clear hc1
   have u1:bits .or .u64 0 ((dg l 0:Nat):Int)=((dg l 0:Nat):Int):=or_one _ b0
   have u2:bits .or .u64 ((dg l 0:Nat):Int) (((dg l 1:Nat):Int)*4294967296)=((val B32 l:Nat):Int):=by rw [val_len2 hl];exact or_two _ _ b0 b1
   clear hl
   rcases Nat.lt_or_ge most (val B32 l) with hcmp | hcmp
   ·have e1:fitV (sg s (val B32 l)) most=0:=by unfold fitV;rw [sg_natAbs,if_neg (by omega)]
    have e2:fitB (sg s (val B32 l)) most=false:=by unfold fitB;rw [sg_natAbs];simp;omega
    rw [e1,e2]
    clear e1 e2
    have hc':(most:Int)<((val B32 l:Nat):Int):=by omega
    go_enter Tryz.func98,Tryz.ntmps98
    go_wp2
    go_rounds 3
    go_ret2
    exact ⟨rfl,by go_grown⟩
   ·have e1:fitV (sg s (val B32 l)) most=sg s (val B32 l):=by unfold fitV;rw [sg_natAbs,if_pos (by omega)]
    have e2:fitB (sg s (val B32 l)) most=true:=by unfold fitB;rw [sg_natAbs];simp;omega
    rw [e1,e2]
    clear e1 e2
    have hc':¬ (most:Int)<((val B32 l:Nat):Int):=by omega
    cases s with
    | true=>
     go_enter Tryz.func98,Tryz.ntmps98
     go_wp2
     go_rounds 3
     go_ret2
     exact ⟨rfl,by go_grown⟩
    | false=>
     go_enter Tryz.func98,Tryz.ntmps98
     go_wp2
     go_rounds 3
     go_ret2
     exact ⟨rfl,by go_grown⟩
theorem small_pow {j:Nat} (h:j<=150):Small ((10 ^ j:Nat):Int):=by
 unfold Small
 rw [Int.natAbs_natCast]
 exact Nat.pow_lt_pow_right (by omega) (by omega)
theorem small_of_le {z:Int} (h1 : -10000000000000000000000000000000000000000<=z) (h2:z<=10000000000000000000000000000000000000000):Small z:=by
 unfold Small
 have:10000000000000000000000000000000000000000<10 ^ 200:=by decide
 omega
set_option maxHeartbeats 4000000 in
set_option maxRecDepth 100000 in
theorem power_c (n:Nat) (w:World) (hn:n<=100) :
  Calls Tryz.prog 97 #[.int .i64 (n:Int)] w (Makes .u32 127 B32 w ((10 ^ n:Nat):Int)):=by
 have hs10:Small 10:=small_of_le (by omega) (by omega)
 go_enter Tryz.func97,Tryz.ntmps97
 go_wp2_with fail
 refine (of_c 1 _ (by omega) (by omega)).mono ?_
 rintro e w1 ⟨s1,A1,n1,c1,rfl,hv,hb⟩
 have hB:=heap_below (heap_new w _ rfl) hb
 have hbw:=below_then hb ((Below.refl _ _).alloc (Nat.le_refl _) _) (by simp)
 obtain ⟨-,-,-,-,z1⟩:=box2 hB
 go_wp2
 have hz1:=hbw.size
 go_loopw [6] (fun i wr=>∃ (j:Nat) (t:Bool) (A:Option Addr) (k c:Nat),j<=n/\i=.int .i64 j/\wr.heap[w1.heap.size]?=some (.cells #[.bool t,.slice A k c] 73 (0,0))/\wr.heap[w.heap.size]?=some (.cells #[.bool false,.slice none 0 0] 73 (0,0)) /\
   Big .u32 127 B32 wr t A k c ((10 ^ j:Nat):Int)/\Below w.heap.size w wr) (fun i _=>n-(intOf i).toNat)
 case atStart=>exact ⟨0,s1,A1,n1,c1,Nat.zero_le _,rfl,heap_new _ _ rfl,heap_old hB _,by exact hv.alloc _,hbw.alloc hz1 _⟩
 case round=>
  obtain ⟨j,t,A,k,c,hj,rfl,hO,hR,hbig,hbel⟩:=hrel
  have hzr:=hbel.size
  obtain ⟨o0,o1,of0,of1,oz⟩:=box2 hO
  rcases Nat.lt_or_ge j n with hjn | hjn
  ·go_wp2_with fail
   go_region_with
    (first
     | (go_at_call 27;refine (of_c 10 _ (by omega) (by omega)).mono ?_;rintro e w4 ⟨s4,A4,n4,c4,rfl,hv4,hb4⟩;(have q1:=box2 (heap_below (w:=wr.drew) hO hb4));obtain ⟨r10,r11,-,-,-⟩:=q1)
     | (go_at_call 96;refine (times_c _ (by exact Big.below (w:=wr.drew) hbig hb4) hv4 (small_pow (by omega)) hs10).mono ?_;rintro e w5 ⟨s5,A5,n5,c5,rfl,hv5,hb5⟩;(have hB5:=heap_below (heap_below (w:=wr.drew) hO hb4) hb5);obtain ⟨g0,g1,g2,g3,g4⟩:=box2 hB5))
   all_goals
    have hR5:=heap_below (heap_below (w:=wr.drew) hR hb4) hb5
    have hpw:((10 ^ j:Nat):Int)*10=((10 ^ (j+1):Nat):Int):=by rw [Nat.pow_succ,Int.natCast_mul];rfl
    rw [hpw] at hv5
    clear hpw
    have hN:Big .u32 127 B32 ((w5.setCell ⟨w1.heap.size,0,none⟩ (.bool s5)).setCell ⟨w1.heap.size,1,none⟩ (.slice A5 n5 c5)) s5 A5 n5 c5 ((10 ^ (j+1):Nat):Int):=hv5.box2 hB5 (by decide) _ _
    have hO':((w5.setCell ⟨w1.heap.size,0,none⟩ (.bool s5)).setCell ⟨w1.heap.size,1,none⟩ (.slice A5 n5 c5)).heap[w1.heap.size]?=some (.cells #[.bool s5,.slice A5 n5 c5] 73 (0,0)):=heap_set (heap_set hB5 0 _) 1 _
    have hR':((w5.setCell ⟨w1.heap.size,0,none⟩ (.bool s5)).setCell ⟨w1.heap.size,1,none⟩ (.slice A5 n5 c5)).heap[w.heap.size]?=some (.cells #[.bool false,.slice none 0 0] 73 (0,0)):=heap_far (heap_far hR5 (by simp;omega) _) (by simp;omega) _
    have hb':Below w.heap.size w ((w5.setCell ⟨w1.heap.size,0,none⟩ (.bool s5)).setCell ⟨w1.heap.size,1,none⟩ (.slice A5 n5 c5)):=((below_then hb5 (below_then hb4 hbel.drew hzr) (Nat.le_trans hzr hb4.size)).setCell (by simp;omega) _).setCell (by simp;omega) _
    generalize (w5.setCell ⟨w1.heap.size,0,none⟩ (.bool s5)).setCell ⟨w1.heap.size,1,none⟩ (.slice A5 n5 c5)=w6 at hN hO' hR' hb' ⊢
    clear hv5 hB5 hR5 hb5 hb4 g0 g1 g2 g3 g4
    go_wp2
    go_roundw
    case rel=>exact ⟨j+1,s5,A5,n5,c5,by omega,by go_num,hO',hR',hN,hb'⟩
    case measure=>simp [intOf];omega
  ·obtain rfl:j=n:=by omega
   obtain ⟨g0,g1,g2,g3,g4⟩:=box2 hR
   go_wp2
   refine bodyPost_ret (v:=.agg #[.bool t,.slice A k c]) (by simp [results,Tryz.results97,go_sem,g0,g1]) rfl ⟨t,A,k,c,rfl,hbig.box2 hR (by decide) _ _,?_⟩
   go_grown
theorem out_no (n lo hi:Int) (w:World) (h:lo<=n/\n<=hi):Calls Tryz.prog 22 #[.int .i64 n,.int .i64 lo,.int .i64 hi] w fun e w'=>w=w'/\e=.returned (.bool false):=by
 have h1:¬ n<lo:=by omega
 have h2:¬ hi<n:=by omega
 go_enter Tryz.func22,Tryz.ntmps22
 go_wp2
 go_ret
 exact ⟨rfl,rfl⟩
theorem out_yes (n lo hi:Int) (w:World) (h:¬ (lo<=n/\n<=hi)):Calls Tryz.prog 22 #[.int .i64 n,.int .i64 lo,.int .i64 hi] w fun e w'=>w=w'/\e=.returned (.bool true):=by
 by_cases h1:n<lo
 ·go_enter Tryz.func22,Tryz.ntmps22
  go_wp2
  go_ret
  exact ⟨rfl,rfl⟩
 ·have h2:hi<n:=by omega
  go_enter Tryz.func22,Tryz.ntmps22
  go_wp2
  go_ret
  exact ⟨rfl,rfl⟩
theorem chk_ok (u p:Int) (w:World) (h:decB u p=true):Calls Tryz.prog 25 #[.agg #[.int .i64 u,.int .i64 p]] w fun e w'=>e=.returned (.int .i64 0)/\Below w.heap.size w w':=by
 have h:=decB_out h
 have h1:¬ u < -1000000000000000:=by omega
 have h2:¬ 1000000000000000<u:=by omega
 have h3:¬ p<0:=by omega
 have h4:¬ 9<p:=by omega
 go_enter Tryz.func25,Tryz.ntmps25
 go_wp2
 go_ret
 exact ⟨rfl,by go_grown⟩
theorem chk_bad (u p:Int) (w:World) (h:decB u p=false):Calls Tryz.prog 25 #[.agg #[.int .i64 u,.int .i64 p]] w fun e w'=>e=.returned (.int .i64 1)/\Below w.heap.size w w':=by
 have h:=decB_not h
 by_cases h1:u < -1000000000000000
 ·go_enter Tryz.func25,Tryz.ntmps25
  go_wp2
  go_ret
  exact ⟨rfl,by go_grown⟩
 by_cases h2:1000000000000000<u
 ·go_enter Tryz.func25,Tryz.ntmps25
  go_wp2
  go_ret
  exact ⟨rfl,by go_grown⟩
 by_cases h3:p<0
 ·go_enter Tryz.func25,Tryz.ntmps25
  go_wp2
  go_ret
  exact ⟨rfl,by go_grown⟩
 have h4:9<p:=by omega
 go_enter Tryz.func25,Tryz.ntmps25
 go_wp2
 go_ret
 exact ⟨rfl,by go_grown⟩
set_option maxHeartbeats 1000000 in
set_option maxRecDepth 100000 in
theorem chks_ok (ds:List (Int×Int)) (A:Option Addr) (n c:Nat) (w:World) (hd:Decs w A n ds) (hn:n<=9223372036854775807) (h:allB ds=true) :
  Calls Tryz.prog 53 #[.slice A n c] w fun e w'=>e=.returned (.int .i64 0)/\Below w.heap.size w w':=by
 have hl:=hd.1
 go_enter Tryz.func53,Tryz.ntmps53
 go_wp2
 go_loopw [8] (fun i wr=>∃ j:Nat,j<=n/\i=.int .i64 j/\Below w.heap.size w wr) (fun i _=>n-(intOf i).toNat)
 case atStart=>exact ⟨0,Nat.zero_le _,rfl,Below.refl _ _⟩
 case round=>
  obtain ⟨j,hj,rfl,hbel⟩:=hrel
  have hz:=hbel.size
  rcases Nat.lt_or_ge j n with hjn | hjn
  ·obtain ⟨b,off,rfl,hb,hc⟩:=hd.2.2 (by omega)
   have hx:=(hbel.cell (p:=⟨b,off+j*2,none⟩) hb).trans (hc j hjn).1
   have hy:=(hbel.cell (p:=⟨b,off+j*2+1,none⟩) hb).trans (hc j hjn).2
   have hk:=allB_at h (j:=j) (by omega)
   clear hc
   go_wp2_with (go_at_call 25;refine (chk_ok _ _ _ hk).mono ?_;rintro e w1 ⟨rfl,hb1⟩)
   go_roundw
   case rel=>exact ⟨j+1,by omega,by go_num,below_then hb1 (by go_grown) (by simp;omega)⟩
   case measure=>simp [intOf];omega
  ·go_wp2
   go_ret
   exact ⟨rfl,hbel⟩
theorem small_mul9 {u:Int} (hu : -1000000000000000<=u/\u<=1000000000000000):Small u:=small_of_le (by omega) (by omega)
set_option maxHeartbeats 2000000 in
set_option maxRecDepth 100000 in
theorem scaled_c (u p:Int) (q:Nat) (w:World) (h:decB u p=true) (hp:p<=q) (hq:q<=9) :
  Calls Tryz.prog 55 #[.agg #[.int .i64 u,.int .i64 p],.int .i64 (q:Int)] w (Makes .u32 127 B32 w (scaled u p q)):=by
 have h:=decB_out h
 have su:Small u:=small_mul9 (by omega)
 have e:IntKind.i64.wrap ((q:Int)-p)=((q-p.toNat:Nat):Int):=by rw [IntWalk.i64_in _ (by omega)];omega
 have HE:=Lib.hid e;clear e
 go_enter Tryz.func55,Tryz.ntmps55
 go_wp2_with fail
 have HW:=boxes2 w (.int .i64 u) (.int .i64 p) (.bool false) (.slice none 0 0) 31 73
 generalize (w.alloc (.cells #[.int .i64 u,.int .i64 p] 31)).alloc (.cells #[.bool false,.slice none 0 0] 73)=w3 at HW ⊢
 obtain ⟨hB1,hB3,hbel⟩:=HW _ rfl
 clear HW
 have hz3:=hbel.size
 obtain ⟨c10,c11,-,-,z1⟩:=box2 hB1
 obtain ⟨-,-,-,-,z3⟩:=box2 hB3
 go_region_held3 (fun w'=>w'.cell? ⟨w.heap.size,0,none⟩=some (.int .i64 u)/\w'.cell? ⟨w.heap.size,1,none⟩=some (.int .i64 p))
  (first | (go_keep;done) | (refine ⟨cell_past2 r10 ?_,cell_past2 r11 ?_⟩<;>omega))
  (first
   | (go_at_call 27;refine (of_c u _ (by omega) (by omega)).mono ?_;rintro e w4 ⟨s4,A4,n4,c4,rfl,hv4,hb4⟩;(have hC1:=heap_below (w:=w3.drew) hB1 hb4);(have hC3:=heap_below (w:=w3.drew) hB3 hb4);(have hbel4:=below_then hb4 hbel.drew hz3);obtain ⟨r10,r11,-,-,-⟩:=box2 hC1)
   | (go_at_call 97;rw [HE.out];refine (power_c _ _ (by omega)).mono ?_;rintro e w5 ⟨s5,A5,n5,c5,rfl,hv5,hb5⟩;(have hE1:=heap_below hC1 hb5);(have hE3:=heap_below hC3 hb5);(have hbel5:=below_then hb5 hbel4 hbel4.size);obtain ⟨r10,r11,-,-,-⟩:=box2 hE1)
   | (go_at_call 96;refine (times_c _ (hv4.below hb5) hv5 su (small_pow (by omega))).mono ?_;rintro e w6 ⟨s6,A6,n6,c6,rfl,hv6,hb6⟩;(have hF1:=heap_below hE1 hb6);(have hF3:=heap_below hE3 hb6);(have hbel6:=below_then hb6 hbel5 hbel5.size);obtain ⟨r10,r11,-,-,-⟩:=box2 hF1;obtain ⟨g0,g1,g2,g3,g4⟩:=box2 hF3))
 go_wp2
 refine bodyPost_ret (v:=.agg #[.bool s6,.slice A6 n6 c6]) (by simp [results,Tryz.results55,go_sem,g0,g1]) rfl ⟨s6,A6,n6,c6,rfl,hv6.box2 hF3 (by decide) _ _,?_⟩
 go_grown
end Go.Proofs.YtbfbgappinilmaaGreatDoor
