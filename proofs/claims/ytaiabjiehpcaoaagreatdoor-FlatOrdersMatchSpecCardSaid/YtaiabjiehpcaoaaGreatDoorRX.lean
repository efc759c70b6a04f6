/- The walk of the reference's numbers: DivMod. The walks of the reference: Small, decimal, Compare. Words for a region that makes two boxes among its calls. -/
import Derived.Test.YtaiabjiehpcaoaaGreatDoorRB
import Derived.Test.YtaiabjiehpcaoaaGreatDoorRH
import Derived.Deep.AppendLies
import Derived.Deep.RegionLaw
import Derived.Test.YtaiabjiehpcaoaaGreatDoorU1
-- merged: R7 R8 RX
set_option maxHeartbeats 4000000
set_option maxRecDepth 100000
namespace Go.Proofs.YtaiabjiehpcaoaaGreatDoor
open Go.RowKit Limb
set_option linter.unusedSimpArgs false
set_option linter.unusedVariables false
def Apart (w:World) (A:Option Addr) (n:Nat) (v:Value):Prop:=0<n->∀ a,A=some a->a.block<w.heap.size/\v.ownBlock≠some a.block
theorem Dig.grown {w w':World} {K:IntKind} {E:TypeId} {A:Option Addr} {n:Nat} {l:List Nat} {v:Value} (h:Dig w K E A n l) (hg:w.grownBy w' v.ownBlock) (ha:Apart w A n v):Dig w' K E A n l:=by
 refine ⟨h.1,fun hn=>?_⟩
 obtain ⟨g,cs,e,hh,hc⟩:=h.2 hn
 subst e
 obtain ⟨h1,h2⟩:=ha hn _ rfl
 exact ⟨g,cs,rfl,(hg.block g h1 (fun e=>h2 e.symm)).trans hh,hc⟩
theorem apart_nil {w:World} {s:Bool} {A:Option Addr} {n c:Nat} {z:Int} (h:Big .i64 3 B6 w s A n c z):Apart w A n (.slice none 0 0):=by
 obtain ⟨l,hd,_⟩:=h
 intro hn a e
 obtain ⟨g,e2,hg,_⟩:=hd.at_ hn
 subst e
 injection e2 with e2
 subst e2
 exact ⟨hg,by simp [Value.ownBlock]⟩
theorem own_apart {w:World} {B E n c:Nat} {A:Option Addr} {xs:List Value} {g:Nat} (h:w.ownsRow B E 1 (.slice A n c) n xs) (hg:w.heap.size<=g):(Value.slice A n c).ownBlock≠some g:=by
 intro e
 rcases h.2 with ⟨h1,_⟩|⟨g',cap,cur,h1,_,h2,_⟩
 ·injection h1 with h1;subst h1;simp [Value.ownBlock] at e
 ·injection h1 with h1
  subst h1
  simp [Value.ownBlock] at e
  have:=Qan h2
  omega
theorem pow_190 {K:Nat} (h:760<=K):10 ^ 190<=2 ^ K:=by
 obtain ⟨e,he⟩:∃ e,e=190:=⟨_,rfl⟩
 rw [<- he]
 have h1:(10:Nat) ^ e<=(2 ^ 4) ^ e:=Nat.pow_le_pow_left (by omega) e
 rw [<- Nat.pow_mul] at h1
 exact Nat.le_trans h1 (Nat.pow_le_pow_right (by omega) (by omega))
theorem grown_drew {w w':World} {r:Option Nat} (h:w.drew.grownBy w' r):w.grownBy w' r:=⟨h.os,h.tape,h.output,h.size,h.block⟩
theorem bits_len {bs:List Nat} {X Z:Nat} (h:X=val 2 bs+2 ^ bs.length*Z) (hX:X<10 ^ 190) (hZ:0<Z):bs.length<760:=by
 rcases Nat.lt_or_ge bs.length 760 with h1 | h1
 ·exact h1
 ·have h2:=pow_190 h1
  have h3:2 ^ bs.length*1<=2 ^ bs.length*Z:=Nat.mul_le_mul_left _ hZ
  generalize 2 ^ bs.length*Z=q at *
  generalize 2 ^ bs.length=r at *
  generalize 10 ^ 190=v at *
  omega
theorem small_part {bs:List Nat} {X Z:Nat} (h:X=val 2 bs+2 ^ bs.length*Z) (hX:X<10 ^ 190):Small (Z:Int):=by
 apply small_nat
 have h3:1*Z<=2 ^ bs.length*Z:=Nat.mul_le_mul_right _ (Nat.pow_pos (by omega))
 exact Nat.lt_of_le_of_lt (by omega) hX
theorem apart_snoc {w w':World} {A:Option Addr} {n m c c' G H:Nat} {Ab:Option Addr} (h:Apart w A n (.slice Ab m c)) (hH:H=w.heap.size+1) (hs:w.heap.size<=w'.heap.size) (hat:(Value.slice Ab m c).ownBlock=some G∨G=H):Apart w' A n (.slice (some ⟨G,0,none⟩) (m+1) c'):=by
 intro hn a e
 obtain ⟨h1,h2⟩:=h hn a e
 refine ⟨by omega,fun e2=>?_⟩
 simp [Value.ownBlock] at e2
 rcases hat with h3 | h3
 ·exact h2 (by rw [h3,e2])
 ·omega
theorem bits_snoc {bs:List Nat} {X Z:Nat} (h:X=val 2 bs+2 ^ bs.length*Z):X=val 2 (bs++[Z%2])+2 ^ (bs++[Z%2]).length*(Z/2):=by
 rw [Qbw,List.length_append,List.length_singleton,Nat.pow_succ,Nat.add_assoc,pow_split]
 exact h
theorem big_zero (w:World):Big .i64 3 B6 w false none 0 0 0:=⟨[],Dig.nil_,Nat.le_refl _,by unfold maxLen;omega,Digs.nil _,norm_nil,(fun h=>by cases h),rfl⟩
theorem sgnR_tri {z h:Int} (e:z.sign=h):(0<=h↔0<=z)/\(0<h↔0<z)/\(h=0↔z=0):=by
 subst e
 rcases Int.lt_trichotomy z 0 with h | h | h
 ·rw [Int.sign_eq_neg_one_of_neg h];omega
 ·subst h;simp
 ·rw [Int.sign_eq_one_of_pos h];omega
theorem oneR_190:1<10 ^ 190:=Nat.one_lt_pow (by omega) (by omega)
theorem two_190:2<10 ^ 190:=Nat.lt_of_lt_of_le (show 2<10 ^ 1 by omega) (Nat.pow_le_pow_right (by omega) (by omega))
theorem dg_bit {b:Nat} (h:b<2) : -9223372036854775808<=(b:Int)/\(b:Int)<=9223372036854775807:=by omega
def lenV:Value->Nat
 | .slice _ n _=>n
 | _=>0
def DivSt (w:World) (N N3:Nat) (s2:Bool) (A2:Option Addr) (n2 c2:Nat) (t:Bool) (B:Option Addr) (k d:Nat) (Ab:Option Addr) (bs:List Nat) (u v:Nat) (wr:World):Prop :=
 ∃ (sq:Bool) (Aq:Option Addr) (nq cq:Nat) (sr:Bool) (Ar:Option Addr) (nr cr:Nat),wr.heap[N]?=some (.cells #[.bool sq,.slice Aq nq cq] 77 (0,0))/\wr.heap[N+1]?=some (.cells #[.bool sr,.slice Ar nr cr] 77 (0,0)) /\
  Big .i64 3 B6 wr sq Aq nq cq ((u:Nat):Int)/\Big .i64 3 B6 wr sr Ar nr cr ((v:Nat):Int)/\wr.heap[N3]?=some (.cells #[.bool s2,.slice A2 n2 c2] 77 (0,0))/\Big .i64 3 B6 wr s2 A2 n2 c2 2/\Dig wr .i64 3 Ab bs.length bs /\
  wr.heap[w.heap.size+1]?=some (.cells #[.bool t,.slice B k d] 77 (0,0))/\wr.heap[w.heap.size+1+1]?=some (.cells #[.bool false,.slice none 0 0] 77 (0,0))/\wr.heap[w.heap.size+1+1+1]?=some (.cells #[.bool false,.slice none 0 0] 77 (0,0))/\Below w.heap.size w wr
theorem two_sets {w w1:World} {N:Nat} {q0 q1 r0 r1:Value} (a b c d:Value) (hQ:w1.heap[N]?=some (.cells #[q0,q1] 77 (0,0))) (hM:w1.heap[N+1]?=some (.cells #[r0,r1] 77 (0,0))) :
  ∀ w9,(((w1.setCell ⟨N,0,none⟩ a).setCell ⟨N,1,none⟩ b).setCell ⟨N+1,0,none⟩ c).setCell ⟨N+1,1,none⟩ d=w9 ->
   w9.heap[N]?=some (.cells #[a,b] 77 (0,0))/\w9.heap[N+1]?=some (.cells #[c,d] 77 (0,0))/\(∀ g o,g≠N->g≠N+1->w1.heap[g]?=some o->w9.heap[g]?=some o) /\
   (∀ s A n c z,Big .i64 3 B6 w1 s A n c z->Big .i64 3 B6 w9 s A n c z)/\(∀ A n l,Dig w1 .i64 3 A n l->Dig w9 .i64 3 A n l)/\(∀ B,B<=N->Below B w w1->Below B w w9):=by
 intro w9 hw
 subst hw
 have h1:=Qae hQ 0 a
 have h2:=Qae h1 1 b
 have m1:=Qaf hM (p:=⟨N,0,none⟩) (by dsimp only;omega) a
 have m2:=Qaf m1 (p:=⟨N,1,none⟩) (by dsimp only;omega) b
 have m3:=Qae m2 0 c
 refine ⟨?_,?_,fun g o e1 e2 h=>Qaf (Qaf (Qaf (Qaf h (by exact e1) _) (by exact e1) _) (by exact e2) _) (by exact e2) _,fun s A n c' z h=>(h.box2 hQ (by decide) _ _).box2 m2 (by decide) _ _,fun A n l h=>(((h.far hQ (by decide) _).far h1 (by decide) _).far m2 (by decide) _).far m3 (by decide) _,fun B hB h=>(((h.setCell (by exact hB) _).setCell (by exact hB) _).setCell (by dsimp only;omega) _).setCell (by dsimp only;omega) _⟩
 ·have:=Qaf (Qaf h2 (p:=⟨N+1,0,none⟩) (by dsimp only;omega) c) (p:=⟨N+1,1,none⟩) (by dsimp only;omega) d
  simpa using this
 ·have:=Qae m3 1 d
  simpa using this
theorem drop_val_le (b:Nat) (hb:0<b) (l:List Nat) (j:Nat):val b (l.drop j)<=val b l:=by
 rcases Nat.lt_or_ge l.length j with h | h
 ·rw [List.drop_of_length_le (by omega)];exact Nat.zero_le _
 ·have h1:=val_split b l j h
  have h2:1*val b (l.drop j)<=b ^ j*val b (l.drop j):=Nat.mul_le_mul_right _ (Nat.pow_pos hb)
  omega
theorem small_3 {z e:Nat} (h:z<=3*e) (he:e<10 ^ 190):Small ((z:Nat):Int):=by
 unfold Small
 rw [Int.natAbs_natCast]
 have h3:10 ^ 190*10<=10 ^ 200:=by rw [<- Nat.pow_succ];exact Nat.pow_le_pow_right (by omega) (by omega)
 generalize 10 ^ 190=p at *
 generalize 10 ^ 200=q at *
 omega
theorem rdiv_step {P Y b:Nat} (hY:0<Y) (hb:b<2) :
  (2*(P%Y)+b<Y->(2*P+b)/Y=2*(P/Y)/\(2*P+b)%Y=2*(P%Y)+b)/\(Y<=2*(P%Y)+b->(2*P+b)/Y=2*(P/Y)+1/\(2*P+b)%Y=2*(P%Y)+b-Y):=by
 have h1:=Nat.div_add_mod P Y
 have h2:=Nat.mod_lt P hY
 generalize P/Y=q at *
 generalize P%Y=r at *
 have h3:Y*(2*q)=2*(Y*q):=by rw [Nat.mul_left_comm]
 have h4:Y*(2*q+1)=2*(Y*q)+Y:=by rw [Nat.mul_add,h3,Nat.mul_one]
 refine ⟨fun h=>(Nat.div_mod_unique hY).2 ⟨by rw [h3];omega,h⟩,fun h=>(Nat.div_mod_unique hY).2 ⟨by rw [h4];omega,by omega⟩⟩
theorem divmod_r (w:World) {s t:Bool} {A B:Option Addr} {n c k d:Nat} (X Y:Nat) (ha:Big .i64 3 B6 w s A n c (X:Int)) (hb:Big .i64 3 B6 w t B k d (Y:Int)) (sx:X<10 ^ 190) (sy:Y<10 ^ 190) (hy:0<Y) :
  Calls Tryz.prog 82 #[.agg #[.bool s,.slice A n c],.agg #[.bool t,.slice B k d]] w (Makes2 .i64 3 B6 w ((X/Y:Nat):Int) ((X%Y:Nat):Int)):=by
 obtain ⟨i0,hi,hz0,hz1,hz2⟩:=info_parts Tryz.info3
 have SX:=Hd sx;have SY:=Hd sy;clear sx sy
 go_enter Tryz.func82,Tryz.ntmps82
 go_wp2_with fail
 generalize hw5:((((w.alloc (Obj.cells #[Value.bool s,Value.slice A n c] 77)).alloc (Obj.cells #[Value.bool t,Value.slice B k d] 77)).alloc (Obj.cells #[Value.bool false,Value.slice none 0 0] 77)).alloc (Obj.cells #[Value.bool false,Value.slice none 0 0] 77)).alloc (Obj.cells #[Value.bool s,Value.slice A n c] 77)=w5
 have hY:w5.heap[w.heap.size+1]?=some (.cells #[.bool t,.slice B k d] 77 (0,0)):=by rw [<- hw5];exact Qad (Qad (Qad (Qac _ _ (by simp)) _) _) _
 have hR:w5.heap[w.heap.size+1+1]?=some (.cells #[.bool false,.slice none 0 0] 77 (0,0)):=by rw [<- hw5];exact Qad (Qad (Qac _ _ (by simp)) _) _
 have hS:w5.heap[w.heap.size+1+1+1]?=some (.cells #[.bool false,.slice none 0 0] 77 (0,0)):=by rw [<- hw5];exact Qad (Qac _ _ (by simp)) _
 have hO:w5.heap[w.heap.size+1+1+1+1]?=some (.cells #[.bool s,.slice A n c] 77 (0,0)):=by rw [<- hw5];exact Qac _ _ (by simp)
 have hB:Below w.heap.size w w5:=by rw [<- hw5];go_grown
 clear hw5
 go_loopw [6,7] (fun bv nv wr=>∃ (bs:List Nat) (Ab:Option Addr) (cb g:Nat) (sn:Bool) (An:Option Addr) (nn cn Z:Nat),bv=.slice Ab bs.length cb/\nv=.pointer (some ⟨g,0,none⟩)/\w.heap.size+1+1+1<g/\Apart wr An nn (.slice Ab bs.length cb)/\Digs 2 bs/\X=val 2 bs+2 ^ bs.length*Z /\
   wr.ownsRow w.heap.size 3 1 (.slice Ab bs.length cb) bs.length (digV .i64 bs)/\Big .i64 3 B6 wr sn An nn cn (Z:Int)/\wr.heap[g]?=some (.cells #[.bool sn,.slice An nn cn] 77 (0,0))/\wr.heap[w.heap.size+1]?=some (.cells #[.bool t,.slice B k d] 77 (0,0)) /\
   wr.heap[w.heap.size+1+1]?=some (.cells #[.bool false,.slice none 0 0] 77 (0,0))/\wr.heap[w.heap.size+1+1+1]?=some (.cells #[.bool false,.slice none 0 0] 77 (0,0))/\Below w.heap.size w wr) (fun bv _ _=>760-lenV bv)
 case atStart=>exact ⟨[],none,0,_,s,A,n,c,X,rfl,rfl,by omega,apart_nil (ha.below hB),Digs.nil _,by simp [val],World.ownsRow_nil _ _ _ _,ha.below hB,hO,hY,hR,hS,hB⟩
 case round=>
  clear hY hR hS hO hB w5
  obtain ⟨bs,Ab,cb,g,sn,An,nn,cn,Z,rfl,rfl,hg,hap,gbs,hval,hown,hbig,hO,hY,hR,hS,hB⟩:=hrel
  have HV:=Hd hval;clear hval
  obtain ⟨o0,o1,-,-,-⟩:=box2 hO
  have hz:=hB.size
  rcases Nat.eq_zero_or_pos Z with hZ | hZ
  ·subst hZ
   have hval:X=val 2 bs:=by have:=HV.out;simpa using this
   have HX:=Hd hval
   have HS:=Hd (show (if ((0:Nat):Int)<0 then (-1:Int) else if ((0:Nat):Int)=0 then 0 else 1)=0 by simp)
   clear hval HV hap
   go_wp2_with fail
   refine (sign_r hbig).mono ?_
   rintro e w1 ⟨hb1,rfl⟩
   rw [HS.out]
   have hY1:=Qaa hY hb1
   have hR1:=Qaa hR hb1
   have hS1:=Qaa hS hb1
   have hB1:=Qab hb1 hB hz
   have hbits1:=(Dig.of_own hown).below hb1
   have hlb:bs.length<=9223372036854775807:=by have:=Qal hown;unfold maxLen at this;omega
   clear hO hY hR hS hown hbig hB o0 o1 hb1 hg
   have hz1:=hB1.size
   go_wp2_with fail
   have hQ:=Qad (Qac w1 (.cells #[.bool false,.slice none 0 0] 77) rfl) (.cells #[.bool false,.slice none 0 0] 77)
   have hM:=Qac (w1.alloc (.cells #[.bool false,.slice none 0 0] 77)) (.cells #[.bool false,.slice none 0 0] 77) rfl
   have hY2:=Qad (Qad hY1 (.cells #[.bool false,.slice none 0 0] 77)) (.cells #[.bool false,.slice none 0 0] 77)
   have hR2:=Qad (Qad hR1 (.cells #[.bool false,.slice none 0 0] 77)) (.cells #[.bool false,.slice none 0 0] 77)
   have hS2:=Qad (Qad hS1 (.cells #[.bool false,.slice none 0 0] 77)) (.cells #[.bool false,.slice none 0 0] 77)
   have hbits2:=(hbits1.alloc (.cells #[.bool false,.slice none 0 0] 77)).alloc (.cells #[.bool false,.slice none 0 0] 77)
   have hB2:=(hB1.alloc hz1 (.cells #[.bool false,.slice none 0 0] 77)).alloc (by simp;omega) (.cells #[.bool false,.slice none 0 0] 77)
   rw [World.size_alloc] at hM
   have hlS:=Qan hS1
   generalize w1.heap.size=N at *
   generalize (w1.alloc (.cells #[.bool false,.slice none 0 0] 77)).alloc (.cells #[.bool false,.slice none 0 0] 77)=w2 at *
   clear hY1 hR1 hS1 hB1 hbits1
   refine (of_r 2 _ (by omega)).mono ?_
   rintro e w3 ⟨s2,A2,n2,c2,rfl,htwo,hb3⟩
   have hQ3:=Qad (Qaa hQ hb3) (.cells #[.bool s2,.slice A2 n2 c2] 77)
   have hM3:=Qad (Qaa hM hb3) (.cells #[.bool s2,.slice A2 n2 c2] 77)
   have hY3:=Qad (Qaa hY2 hb3) (.cells #[.bool s2,.slice A2 n2 c2] 77)
   have hR3:=Qad (Qaa hR2 hb3) (.cells #[.bool s2,.slice A2 n2 c2] 77)
   have hS3:=Qad (Qaa hS2 hb3) (.cells #[.bool s2,.slice A2 n2 c2] 77)
   have hbits3:=(hbits2.below hb3).alloc (.cells #[.bool s2,.slice A2 n2 c2] 77)
   have htwo3:=htwo.alloc (.cells #[.bool s2,.slice A2 n2 c2] 77)
   have hT3:=Qac w3 (.cells #[.bool s2,.slice A2 n2 c2] 77) rfl
   have hlM:N+1<w3.heap.size:=Nat.lt_of_lt_of_le (Qan hM) hb3.size
   have hB3:=(Qab hb3 hB2 hB2.size).alloc (by have:=hB2.size;have:=hb3.size;omega) (.cells #[.bool s2,.slice A2 n2 c2] 77)
   clear hQ hM hY2 hR2 hS2 hB2 hbits2 htwo hb3
   go_wp2_with fail
   generalize w3.heap.size=N3 at *
   generalize w3.alloc (.cells #[.bool s2,.slice A2 n2 c2] 77)=w4 at *
   go_loopw [13] (fun iv wr=>∃ j:Nat,j<=bs.length/\iv=.int .i64 ((j:Int)-1)/\DivSt w N N3 s2 A2 n2 c2 t B k d Ab bs (val 2 (bs.drop j)/Y) (val 2 (bs.drop j)%Y) wr) (fun iv _=>(intOf iv+1).toNat)
   case atStart=>exact ⟨bs.length,Nat.le_refl _,rfl,false,none,0,0,false,none,0,0,hQ3,hM3,by rw [List.drop_of_length_le (Nat.le_refl _)];simp [val];exact big_zero _,by rw [List.drop_of_length_le (Nat.le_refl _)];simp [val];exact big_zero _,hT3,htwo3,hbits3,hY3,hR3,hS3,hB3⟩
   case round=>
    clear hQ3 hM3 hT3 htwo3 hbits3 hY3 hR3 hS3 hB3 w4
    obtain ⟨j,hj,rfl,hst⟩:=hrel
    have n3:N3≠N:=by omega
    have n4:N3≠N+1:=by omega
    have m1:w.heap.size+1≠N:=by omega
    have m2:w.heap.size+1≠N+1:=by omega
    have m3:w.heap.size+2≠N:=by omega
    have m4:w.heap.size+2≠N+1:=by omega
    have m5:w.heap.size+3≠N:=by omega
    have m6:w.heap.size+3≠N+1:=by omega
    have hwN:w.heap.size<=N:=by omega
    rcases j with _ | j
    ·obtain ⟨sq,Aq,nq,cq,sr,Ar,nr,cr,hQ,hM,hq,hr,hT,htwo,hbits,hY,hR,hS,hB⟩:=hst
     have hv:val 2 (bs.drop 0)=X:=HX.out.symm
     rw [hv] at hq hr
     clear hv hT htwo hbits hY n3 n4 m1 m2 ha hb
     obtain ⟨q0,q1,-,-,-⟩:=box2 hQ
     obtain ⟨e0,e1,-,-,-⟩:=box2 hM
     obtain ⟨r0,r1,r2,r3,r4⟩:=box2 hR
     obtain ⟨z0,z1,z2,z3,z4⟩:=box2 hS
     go_wp2_with fail
     go_region
     all_goals
      obtain ⟨k1,k2,-,k4,-,k6⟩:=two_sets (w:=w) (.bool sq) (.slice Aq nq cq) (.bool sr) (.slice Ar nr cr) hR hS _ rfl
      obtain ⟨g0,g1,-,-,-⟩:=box2 k1
      obtain ⟨h0,h1,-,-,-⟩:=box2 k2
      go_wp2
      refine bodyPost_ret (v:=.tuple #[.agg #[.bool sq,.slice Aq nq cq],.agg #[.bool sr,.slice Ar nr cr]]) (by simp [results,Tryz.results82,go_sem,g0,g1,h0,h1]) rfl ⟨sq,Aq,nq,cq,sr,Ar,nr,cr,rfl,by exact k4 _ _ _ _ _ hq,by exact k4 _ _ _ _ _ hr,by exact (k6 _ (by omega) hB).drew⟩
    ·have e:((j+1:Nat):Int)-1=(j:Int):=by omega
     rw [e]
     have hb2:=QaU gbs (by decide) j
     have hdrop:val 2 (bs.drop j)=2*val 2 (bs.drop (j+1))+dg bs j:=by rw [drop_dg (by omega),Qba];omega
     have hPX:val 2 (bs.drop (j+1))<=X:=by rw [HX.out];exact drop_val_le 2 (by omega) bs (j+1)
     have hjI:(j:Int)<(bs.length:Int):=by omega
     obtain ⟨P,hP⟩:=ex_ (val 2 (bs.drop (j+1)))
     rw [hP] at hdrop hPX hst
     have HDR:=Hd hdrop
     have hPq:P/Y<=X:=Nat.le_trans (Nat.div_le_self _ _) hPX
     have hPr:P%Y<Y:=Nat.mod_lt _ hy
     have hstep:=rdiv_step (P:=P) hy hb2
     have HST:=Hd hstep
     have sq2:Small ((P/Y:Nat):Int):=small_3 (e:=X) (by omega) SX.out
     have sr2:Small ((P%Y:Nat):Int):=small_3 (e:=Y) (by omega) SY.out
     have stwo:Small 2:=small_nat (Z:=2) two_190
     have sr3:Small (((P%Y:Nat):Int)*2):=by rw [Int.mul_comm];exact small_3 (z:=2*(P%Y)) (e:=Y) (by omega) SY.out
     have sbit:Small ((dg bs j:Nat):Int):=small_nat (Nat.lt_trans hb2 two_190)
     have eq2:((P/Y:Nat):Int)*2=((2*(P/Y):Nat):Int):=by rw [Int.natCast_mul,Int.mul_comm];rfl
     have er2:((P%Y:Nat):Int)*2+((dg bs j:Nat):Int)=((2*(P%Y)+dg bs j:Nat):Int):=by rw [Int.natCast_add,Int.natCast_mul,Int.mul_comm];rfl
     have sq4:Small ((2*(P/Y):Nat):Int):=small_3 (e:=X) (by omega) SX.out
     have sr4:Small ((2*(P%Y)+dg bs j:Nat):Int):=small_3 (e:=Y) (by omega) SY.out
     have sy1:Small ((Y:Nat):Int):=small_nat SY.out
     have EQ2:=Hd eq2;have ER2:=Hd er2
     clear hP hdrop hstep eq2 er2 hPX hPq
     have hbI:=dg_bit hb2
     obtain ⟨V,hV⟩:∃ V,V=2*(P%Y)+dg bs j:=⟨_,rfl⟩
     obtain ⟨U,hU⟩:∃ U,U=2*(P/Y):=⟨_,rfl⟩
     rw [<- hV] at sr4 ER2 HST
     rw [<- hU] at sq4 EQ2 HST
     clear hV hU
     go_upto_region 13 with fail
     go_cut [] from 33 to 59 (fun wx=>DivSt w N N3 s2 A2 n2 c2 t B k d Ab bs U V wx)
     case first=>
      obtain ⟨sq,Aq,nq,cq,sr,Ar,nr,cr,hQ,hM,hq,hr,hT,htwo,hbits,hY,hR,hS,hB⟩:=hst
      obtain ⟨gb,csb,hAb,hgb0,hcb0⟩:=hbits.2 (by omega)
      subst hAb
      have hgb:gb<wr.heap.size:=Qan hgb0
      have hbit:=(cell_of_row wr gb j csb 3 (0,0) hgb0).trans (hcb0 j (by omega))
      have n1:gb≠N:=QaJ hgb0 hQ (by decide)
      have ng2:gb≠N+1:=QaJ hgb0 hM (by decide)
      obtain ⟨q0,q1,q2,q3,q4⟩:=box2 hQ
      obtain ⟨m0,m10,m20,m30,m40⟩:=box2 hM
      obtain ⟨t0,t1,-,-,-⟩:=box2 hT
      have PK1:=Hd (And.intro hY (And.intro hR (And.intro hS (And.intro hB (And.intro ha (And.intro hb hbits))))))
      have PK2:=Hd hQ;have PK3:=Hd hM;have PK4:=Hd hT;have PK5:=Hd hq;have PK6:=Hd hr;have PK7:=Hd htwo
      clear hY hR hS hB hbits hgb0 hQ hM hT hq hr htwo hcb0 hz0 hz1 hz2 hi gbs hlb hlS hlM ha hb
      refine Qaq 12 (fun w'=>w'.cell? ⟨N,0,none⟩=some (.bool sq)/\w'.cell? ⟨N,1,none⟩=some (.slice Aq nq cq)/\w'.cell? ⟨N+1,0,none⟩=some (.bool sr)/\w'.cell? ⟨N+1,1,none⟩=some (.slice Ar nr cr)/\w'.cell? ⟨N3,0,none⟩=some (.bool s2)/\w'.cell? ⟨N3,1,none⟩=some (.slice A2 n2 c2)/\w'.cell? ⟨gb,j,none⟩=some (.int .i64 ((dg bs j:Nat):Int))) (by kernel_rfl) ?_
      have hT:(fun w':World=>w'.cell? ⟨N,0,none⟩=some (.bool sq)/\w'.cell? ⟨N,1,none⟩=some (.slice Aq nq cq)/\w'.cell? ⟨N+1,0,none⟩=some (.bool sr)/\w'.cell? ⟨N+1,1,none⟩=some (.slice Ar nr cr)/\w'.cell? ⟨N3,0,none⟩=some (.bool s2)/\w'.cell? ⟨N3,1,none⟩=some (.slice A2 n2 c2)/\w'.cell? ⟨gb,j,none⟩=some (.int .i64 ((dg bs j:Nat):Int))) wr.drew:=⟨q0,q1,m0,m10,t0,t1,hbit⟩
      refine Till.tk (i:=0) (v:=?_) rfl [2,5,11] hT (Or.inl ⟨by rfl,?_⟩) ?_
      rotate_left
      ·(intro w' hw';obtain ⟨u1,u2,u3,u4,u5,u6,u7⟩:=hw';go_simp;try with_reducible rfl)
      (try simp only [Act.put,Till.a,Till.b,Till.c])
      refine Till.tk (i:=1) (v:=?_) rfl [2,5,11] hT (Or.inl ⟨by rfl,?_⟩) ?_
      rotate_left
      ·(intro w' hw';obtain ⟨u1,u2,u3,u4,u5,u6,u7⟩:=hw';go_simp;try with_reducible rfl)
      (try simp only [Act.put,Till.a,Till.b,Till.c])
      refine Till.tk (i:=3) (v:=?_) rfl [5,11] hT (Or.inl ⟨by rfl,?_⟩) ?_
      rotate_left
      ·(intro w' hw';obtain ⟨u1,u2,u3,u4,u5,u6,u7⟩:=hw';go_simp;try with_reducible rfl)
      (try simp only [Act.put,Till.a,Till.b,Till.c])
      refine Till.tk (i:=4) (v:=?_) rfl [5,11] hT (Or.inl ⟨by rfl,?_⟩) ?_
      rotate_left
      ·(intro w' hw';obtain ⟨u1,u2,u3,u4,u5,u6,u7⟩:=hw';go_simp;try with_reducible rfl)
      (try simp only [Act.put,Till.a,Till.b,Till.c])
      refine Till.tk (i:=6) (v:=?_) rfl [8,9,10,11] hT (Or.inl ⟨by rfl,?_⟩) ?_
      rotate_left
      ·(intro w' hw';obtain ⟨u1,u2,u3,u4,u5,u6,u7⟩:=hw';go_simp;try with_reducible rfl)
      (try simp only [Act.put,Till.a,Till.b,Till.c])
      refine Till.tk (i:=7) (v:=?_) rfl [8,9,10,11] hT (Or.inl ⟨by rfl,?_⟩) ?_
      rotate_left
      ·(intro w' hw';obtain ⟨u1,u2,u3,u4,u5,u6,u7⟩:=hw';go_simp;try with_reducible rfl)
      (try simp only [Act.put,Till.a,Till.b,Till.c])
      refine Till.tk (i:=8) (v:=?_) rfl [9,10,11] hT (Or.inl ⟨by rfl,?_⟩) ?_
      rotate_left
      ·(intro w' hw';obtain ⟨u1,u2,u3,u4,u5,u6,u7⟩:=hw';go_simp;try with_reducible rfl)
      (try simp only [Act.put,Till.a,Till.b,Till.c])
      refine Till.tk (i:=9) (v:=?_) rfl [10,11] hT (Or.inl ⟨by rfl,?_⟩) ?_
      rotate_left
      ·(intro w' hw';obtain ⟨u1,u2,u3,u4,u5,u6,u7⟩:=hw';go_simp;try with_reducible rfl)
      (try simp only [Act.put,Till.a,Till.b,Till.c])
      refine Till.step (i:=2) (by kernel_rfl) rfl ?_
      intro K hK
      go_simp
      (go_at_call_of 145 (Value.agg #[Value.bool sq,Value.slice Aq nq cq]);refine (timesof_r _ (x:=((P/Y:Nat):Int)) (y:=2) (by exact PK5.out) (by exact PK7.out) sq2 stwo).mono ?_;rintro e w5 ⟨s5,A5,n5,c5,rfl,hv5,hb5⟩;rw [EQ2.out] at hv5;(have hQ5:=Hd (Qaa (w:=wr.drew) PK2.out hb5));(have hM5:=Hd (Qaa (w:=wr.drew) PK3.out hb5));(have hT5:=Hd (Qaa (w:=wr.drew) PK4.out hb5));(have hbit5:=(hb5.cell (p:=⟨gb,j,none⟩) (by exact hgb)).trans hbit);obtain ⟨m50,m51,-,-,-⟩:=box2 hM5.out;obtain ⟨t50,t51,-,-,-⟩:=box2 hT5.out;(have HB5:=Hd hb5);(have HV5:=Hd hv5);clear hb5 hv5)
      have hT:(fun w':World=>w'.cell? ⟨N,0,none⟩=some (.bool sq)/\w'.cell? ⟨N,1,none⟩=some (.slice Aq nq cq)/\w'.cell? ⟨N+1,0,none⟩=some (.bool sr)/\w'.cell? ⟨N+1,1,none⟩=some (.slice Ar nr cr)/\w'.cell? ⟨N3,0,none⟩=some (.bool s2)/\w'.cell? ⟨N3,1,none⟩=some (.slice A2 n2 c2)/\w'.cell? ⟨gb,j,none⟩=some (.int .i64 ((dg bs j:Nat):Int))) w5:=⟨(box2 hQ5.out).1,(box2 hQ5.out).2.1,(box2 hM5.out).1,(box2 hM5.out).2.1,(box2 hT5.out).1,(box2 hT5.out).2.1,hbit5⟩
      refine hK.out _ _ (fun _=>hT) ?_
      clear hK K
      (try simp only [Act.put,Till.a,Till.b,Till.c])
      refine Till.step (i:=5) (by kernel_rfl) rfl ?_
      intro K hK
      go_simp
      (go_at_call_of 145 (Value.agg #[Value.bool sr,Value.slice Ar nr cr]);refine (timesof_r _ (x:=((P%Y:Nat):Int)) (y:=2) (by exact Big.below (w:=wr.drew) PK6.out HB5.out) (by exact Big.below (w:=wr.drew) PK7.out HB5.out) sr2 stwo).mono ?_;rintro e w6 ⟨s6,A6,n6,c6,rfl,hv6,hb6⟩;(have hQ6:=Hd (Qaa hQ5.out hb6));(have hM6:=Hd (Qaa hM5.out hb6));(have hT6:=Hd (Qaa hT5.out hb6));(have hbit6:=(hb6.cell (p:=⟨gb,j,none⟩) (Nat.lt_of_lt_of_le hgb HB5.out.size)).trans hbit5);obtain ⟨t60,t61,-,-,-⟩:=box2 hT6.out;(have HB6:=Hd hb6);(have HV6:=Hd hv6);clear hb6 hv6)
      have hT:(fun w':World=>w'.cell? ⟨N,0,none⟩=some (.bool sq)/\w'.cell? ⟨N,1,none⟩=some (.slice Aq nq cq)/\w'.cell? ⟨N+1,0,none⟩=some (.bool sr)/\w'.cell? ⟨N+1,1,none⟩=some (.slice Ar nr cr)/\w'.cell? ⟨N3,0,none⟩=some (.bool s2)/\w'.cell? ⟨N3,1,none⟩=some (.slice A2 n2 c2)/\w'.cell? ⟨gb,j,none⟩=some (.int .i64 ((dg bs j:Nat):Int))) w6:=⟨(box2 hQ6.out).1,(box2 hQ6.out).2.1,(box2 hM6.out).1,(box2 hM6.out).2.1,(box2 hT6.out).1,(box2 hT6.out).2.1,hbit6⟩
      refine hK.out _ _ (fun _=>hT) ?_
      clear hK K
      (try simp only [Act.put,Till.a,Till.b,Till.c])
      refine Till.step (i:=10) (by kernel_rfl) rfl ?_
      intro K hK
      go_simp
      (go_at_call 83;refine (of_r _ _ hbI).mono ?_;rintro e w7 ⟨s7,A7,n7,c7,rfl,hv7,hb7⟩;(have hQ7:=Hd (Qaa hQ6.out hb7));(have hM7:=Hd (Qaa hM6.out hb7));(have hT7:=Hd (Qaa hT6.out hb7));(have hbit7:=(hb7.cell (p:=⟨gb,j,none⟩) (Nat.lt_of_lt_of_le (Nat.lt_of_lt_of_le hgb HB5.out.size) HB6.out.size)).trans hbit6);obtain ⟨t70,t71,-,-,-⟩:=box2 hT7.out;(have HB7:=Hd hb7);(have HV7:=Hd hv7);clear hb7 hv7)
      have hT:(fun w':World=>w'.cell? ⟨N,0,none⟩=some (.bool sq)/\w'.cell? ⟨N,1,none⟩=some (.slice Aq nq cq)/\w'.cell? ⟨N+1,0,none⟩=some (.bool sr)/\w'.cell? ⟨N+1,1,none⟩=some (.slice Ar nr cr)/\w'.cell? ⟨N3,0,none⟩=some (.bool s2)/\w'.cell? ⟨N3,1,none⟩=some (.slice A2 n2 c2)/\w'.cell? ⟨gb,j,none⟩=some (.int .i64 ((dg bs j:Nat):Int))) w7:=⟨(box2 hQ7.out).1,(box2 hQ7.out).2.1,(box2 hM7.out).1,(box2 hM7.out).2.1,(box2 hT7.out).1,(box2 hT7.out).2.1,hbit7⟩
      refine hK.out _ _ (fun _=>hT) ?_
      clear hK K
      (try simp only [Act.put,Till.a,Till.b,Till.c])
      refine Till.step (i:=11) (by kernel_rfl) rfl ?_
      intro K hK
      go_simp
      (go_at_call 80;refine (plus_r _ (HV6.out.below HB7.out) HV7.out sr3 sbit).mono ?_;rintro e w8 ⟨s8,A8,n8,c8,rfl,hv8,hb8⟩;rw [ER2.out] at hv8;(have hQ8:=Qaa hQ7.out hb8);(have hM8:=Qaa hM7.out hb8);(have hT8:=Hd (Qaa hT7.out hb8));(have bit8:=(hb8.cell (p:=⟨gb,j,none⟩) (Nat.lt_of_lt_of_le (Nat.lt_of_lt_of_le (Nat.lt_of_lt_of_le hgb HB5.out.size) HB6.out.size) HB7.out.size)).trans hbit7);obtain ⟨t80,t81,-,-,-⟩:=box2 hT8.out;obtain ⟨q80,q81,q82,q83,-⟩:=box2 hQ8;obtain ⟨m80,m81,m82,m83,-⟩:=box2 hM8;(have HB8:=Hd hb8);(have HV8:=Hd hv8);clear hb8 hv8)
      have hT:(fun w':World=>w'.cell? ⟨N,0,none⟩=some (.bool sq)/\w'.cell? ⟨N,1,none⟩=some (.slice Aq nq cq)/\w'.cell? ⟨N+1,0,none⟩=some (.bool sr)/\w'.cell? ⟨N+1,1,none⟩=some (.slice Ar nr cr)/\w'.cell? ⟨N3,0,none⟩=some (.bool s2)/\w'.cell? ⟨N3,1,none⟩=some (.slice A2 n2 c2)/\w'.cell? ⟨gb,j,none⟩=some (.int .i64 ((dg bs j:Nat):Int))) w8:=⟨(box2 hQ8).1,(box2 hQ8).2.1,(box2 hM8).1,(box2 hM8).2.1,(box2 hT8.out).1,(box2 hT8.out).2.1,bit8⟩
      refine hK.out _ _ (fun _=>hT) ?_
      clear hK K
      (try simp only [Act.put,Till.a,Till.b,Till.c])
      refine Till.step (i:=12) (by kernel_rfl) rfl ?_
      intro K hK
      go_simp
      refine hK.out _ _ (fun h=>absurd h (by decide)) ?_
      clear hK K
      (try simp only [Act.put,Till.a,Till.b,Till.c])
      refine Till.step (i:=13) (by kernel_rfl) rfl ?_
      intro K hK
      go_simp
      refine hK.out _ _ (fun h=>absurd h (by decide)) ?_
      clear hK K
      (try simp only [Act.put,Till.a,Till.b,Till.c])
      refine Till.done (by kernel_rfl) ?_ _
      all_goals
       obtain ⟨k1,k2,k3,k4,k5,k6⟩:=two_sets (w:=w) (.bool s5) (.slice A5 n5 c5) (.bool s8) (.slice A8 n8 c8) hQ8 hM8 _ rfl
       obtain ⟨hY,hR,hS,hB,ha,hb,hbits⟩:=PK1.out
       have hY8:=Qaa (Qaa (Qaa (Qaa (w:=wr.drew) hY HB5.out) HB6.out) HB7.out) HB8.out
       have hR8:=Qaa (Qaa (Qaa (Qaa (w:=wr.drew) hR HB5.out) HB6.out) HB7.out) HB8.out
       have hS8:=Qaa (Qaa (Qaa (Qaa (w:=wr.drew) hS HB5.out) HB6.out) HB7.out) HB8.out
       have hbits8:=(((Dig.below (w:=wr.drew) hbits HB5.out).below HB6.out).below HB7.out).below HB8.out
       have htwo8:=(((Big.below (w:=wr.drew) PK7.out HB5.out).below HB6.out).below HB7.out).below HB8.out
       have hB5:=Qab HB5.out hB.drew (by exact hB.size)
       have hB6:=Qab HB6.out hB5 hB5.size
       have hB7:=Qab HB7.out hB6 hB6.size
       have hB8:=Qab HB8.out hB7 hB7.size
       have hv58:=((HV5.out.below HB6.out).below HB7.out).below HB8.out
       have hlN:=Qan hR8
       go_wp2_with fail
       go_meet
       exact ⟨s5,A5,n5,c5,s8,A8,n8,c8,k1,k2,k4 _ _ _ _ _ hv58,k4 _ _ _ _ _ HV8.out,k3 _ _ n3 n4 hT8.out,k4 _ _ _ _ _ htwo8,k5 _ _ _ hbits8,k3 _ _ m1 m2 hY8,k3 _ _ m3 m4 hR8,k3 _ _ m5 m6 hS8,k6 _ hwN hB8⟩
     case rest=>
      clear hst
      obtain ⟨sq,Aq,nq,cq,sr,Ar,nr,cr,hQ,hM,hq,hr,hT,htwo,hbits,hY,hR,hS,hB⟩:=hcut
      obtain ⟨m0,m10,-,-,-⟩:=box2 hM
      obtain ⟨y0,y1,-,-,-⟩:=box2 hY
      obtain ⟨σ,hσ⟩:=ex_ ((((V:Nat):Int)-((Y:Nat):Int)).sign)
      have hσ0:=(sgnR_tri hσ).1
      have HSG:=Hd hσ
      clear hσ
      go_wp2_with fail
      refine (cmp_r _ hr (hb.below hB) sr4 sy1).mono ?_
      rintro e w2 ⟨rfl,hb2'⟩
      rw [HSG.out]
      have hQ2:=Qaa hQ hb2'
      have hM2:=Qaa hM hb2'
      have hT2:=Qaa hT hb2'
      have hY2:=Qaa hY hb2'
      have hR2:=Qaa hR hb2'
      have hS2:=Qaa hS hb2'
      have hq2:=hq.below hb2'
      have hr2:=hr.below hb2'
      have htwo2:=htwo.below hb2'
      have hbits2:=hbits.below hb2'
      have hB2:=Qab hb2' hB hB.size
      clear hQ hM hT hY hR hS hq hr htwo hbits hB hb2' m0 m10 y0 y1
      by_cases hge:0<=σ
      ·have hYV:Y<=V:=by have:=hσ0.1 hge;omega
       clear hσ0
       obtain ⟨m0,m10,m20,m30,m40⟩:=box2 hM2
       obtain ⟨q0,q1,q2,q3,q4⟩:=box2 hQ2
       obtain ⟨y0,y1,-,-,-⟩:=box2 hY2
       go_wp2_with fail
       have HQ2:=Hd hQ2;have HM2:=Hd hM2;have HY2:=Hd hY2;have HT2:=Hd hT2;have Hq2:=Hd hq2;have Hr2:=Hd hr2;have Htwo2:=Hd htwo2;have Hbits2:=Hd hbits2;have HR2:=Hd hR2;have HS2:=Hd hS2;have HB2:=Hd hB2
       have Hb2:=Hd (hb.below hB2);have HAB:=Hd (And.intro ha hb)
       have eu1:((U:Nat):Int)+1=((U+1:Nat):Int):=by omega
       have ev1:((V:Nat):Int) + -((Y:Nat):Int)=((V-Y:Nat):Int):=by omega
       have EU1:=Hd eu1;have EV1:=Hd ev1
       have sone:Small 1:=small_nat (Z:=1) oneR_190
       have snY:Small (-((Y:Nat):Int)):=small_neg sy1
       clear hQ2 hM2 hY2 hT2 hq2 hr2 htwo2 hbits2 hR2 hS2 hB2 eu1 ev1 ha hb hz0 hz1 hz2 hi gbs hlS hlM
       refine Qaq 7 (fun w'=>w'.cell? ⟨N,0,none⟩=some (.bool sq)/\w'.cell? ⟨N,1,none⟩=some (.slice Aq nq cq)/\w'.cell? ⟨N+1,0,none⟩=some (.bool sr)/\w'.cell? ⟨N+1,1,none⟩=some (.slice Ar nr cr)/\w'.cell? ⟨w.heap.size+1,0,none⟩=some (.bool t)/\w'.cell? ⟨w.heap.size+1,1,none⟩=some (.slice B k d)) (by kernel_rfl) ?_
       have hT:(fun w':World=>w'.cell? ⟨N,0,none⟩=some (.bool sq)/\w'.cell? ⟨N,1,none⟩=some (.slice Aq nq cq)/\w'.cell? ⟨N+1,0,none⟩=some (.bool sr)/\w'.cell? ⟨N+1,1,none⟩=some (.slice Ar nr cr)/\w'.cell? ⟨w.heap.size+1,0,none⟩=some (.bool t)/\w'.cell? ⟨w.heap.size+1,1,none⟩=some (.slice B k d)) w2.drew:=⟨q0,q1,m0,m10,y0,y1⟩
       refine Till.tk (i:=0) (v:=?_) rfl [2,5,6] hT (Or.inl ⟨by rfl,?_⟩) ?_
       rotate_left
       ·(intro w' hw';obtain ⟨u1,u2,u3,u4,u5,u6⟩:=hw';go_simp;try with_reducible rfl)
       (try simp only [Act.put,Till.a,Till.b,Till.c])
       refine Till.tk (i:=3) (v:=?_) rfl [6] hT (Or.inl ⟨by rfl,?_⟩) ?_
       rotate_left
       ·(intro w' hw';obtain ⟨u1,u2,u3,u4,u5,u6⟩:=hw';go_simp;try with_reducible rfl)
       (try simp only [Act.put,Till.a,Till.b,Till.c])
       refine Till.tk (i:=4) (v:=?_) rfl [5,6] hT (Or.inl ⟨by rfl,?_⟩) ?_
       rotate_left
       ·(intro w' hw';obtain ⟨u1,u2,u3,u4,u5,u6⟩:=hw';go_simp;try with_reducible rfl)
       (try simp only [Act.put,Till.a,Till.b,Till.c])
       refine Till.step (i:=1) (by kernel_rfl) rfl ?_
       intro K hK
       go_simp
       (go_at_call 83;refine (of_r 1 _ (by omega)).mono ?_;rintro e w5 ⟨s5,A5,n5,c5,rfl,hv5,hb5⟩;(have HQ5:=Hd (Qaa (w:=w2.drew) HQ2.out hb5));(have HM5:=Hd (Qaa (w:=w2.drew) HM2.out hb5));(have HY5:=Hd (Qaa (w:=w2.drew) HY2.out hb5));obtain ⟨q50,q51,q52,q53,-⟩:=box2 HQ5.out;obtain ⟨m50,m51,m52,m53,-⟩:=box2 HM5.out;obtain ⟨y50,y51,-,-,-⟩:=box2 HY5.out;(have HB5:=Hd hb5);(have HV5:=Hd hv5);clear hb5 hv5)
       have hT:(fun w':World=>w'.cell? ⟨N,0,none⟩=some (.bool sq)/\w'.cell? ⟨N,1,none⟩=some (.slice Aq nq cq)/\w'.cell? ⟨N+1,0,none⟩=some (.bool sr)/\w'.cell? ⟨N+1,1,none⟩=some (.slice Ar nr cr)/\w'.cell? ⟨w.heap.size+1,0,none⟩=some (.bool t)/\w'.cell? ⟨w.heap.size+1,1,none⟩=some (.slice B k d)) w5:=⟨(box2 HQ5.out).1,(box2 HQ5.out).2.1,(box2 HM5.out).1,(box2 HM5.out).2.1,(box2 HY5.out).1,(box2 HY5.out).2.1⟩
       refine hK.out _ _ (fun _=>hT) ?_
       clear hK K
       (try simp only [Act.put,Till.a,Till.b,Till.c])
       refine Till.step (i:=2) (by kernel_rfl) rfl ?_
       intro K hK
       go_simp
       (go_at_call_of 80 (Value.agg #[Value.bool sq,Value.slice Aq nq cq]);refine (plus_r _ (x:=((U:Nat):Int)) (y:=1) (by exact Big.below (w:=w2.drew) Hq2.out HB5.out) HV5.out sq4 sone).mono ?_;rintro e w6 ⟨s6,A6,n6,c6,rfl,hv6,hb6⟩;rw [EU1.out] at hv6;(have HQ6:=Hd (Qaa HQ5.out hb6));(have HM6:=Hd (Qaa HM5.out hb6));(have HY6:=Hd (Qaa HY5.out hb6));obtain ⟨q60,q61,q62,q63,-⟩:=box2 HQ6.out;obtain ⟨m60,m61,m62,m63,-⟩:=box2 HM6.out;obtain ⟨y60,y61,-,-,-⟩:=box2 HY6.out;(have HB6:=Hd hb6);(have HV6:=Hd hv6);clear hb6 hv6)
       have hT:(fun w':World=>w'.cell? ⟨N,0,none⟩=some (.bool sq)/\w'.cell? ⟨N,1,none⟩=some (.slice Aq nq cq)/\w'.cell? ⟨N+1,0,none⟩=some (.bool sr)/\w'.cell? ⟨N+1,1,none⟩=some (.slice Ar nr cr)/\w'.cell? ⟨w.heap.size+1,0,none⟩=some (.bool t)/\w'.cell? ⟨w.heap.size+1,1,none⟩=some (.slice B k d)) w6:=⟨(box2 HQ6.out).1,(box2 HQ6.out).2.1,(box2 HM6.out).1,(box2 HM6.out).2.1,(box2 HY6.out).1,(box2 HY6.out).2.1⟩
       refine hK.out _ _ (fun _=>hT) ?_
       clear hK K
       (try simp only [Act.put,Till.a,Till.b,Till.c])
       refine Till.step (i:=5) (by kernel_rfl) rfl ?_
       intro K hK
       go_simp
       (go_at_call 149;refine (minus_r (z:=((Y:Nat):Int)) ((Big.below (w:=w2.drew) Hb2.out HB5.out).below HB6.out)).mono ?_;rintro e w7 ⟨s7,A7,n7,c7,rfl,hv7,hb7⟩;(have HQ7:=Hd (Qaa HQ6.out hb7));(have HM7:=Hd (Qaa HM6.out hb7));(have HY7:=Hd (Qaa HY6.out hb7));obtain ⟨q70,q71,q72,q73,-⟩:=box2 HQ7.out;obtain ⟨m70,m71,m72,m73,-⟩:=box2 HM7.out;obtain ⟨y70,y71,-,-,-⟩:=box2 HY7.out;(have HB7:=Hd hb7);(have HV7:=Hd hv7);clear hb7 hv7)
       have hT:(fun w':World=>w'.cell? ⟨N,0,none⟩=some (.bool sq)/\w'.cell? ⟨N,1,none⟩=some (.slice Aq nq cq)/\w'.cell? ⟨N+1,0,none⟩=some (.bool sr)/\w'.cell? ⟨N+1,1,none⟩=some (.slice Ar nr cr)/\w'.cell? ⟨w.heap.size+1,0,none⟩=some (.bool t)/\w'.cell? ⟨w.heap.size+1,1,none⟩=some (.slice B k d)) w7:=⟨(box2 HQ7.out).1,(box2 HQ7.out).2.1,(box2 HM7.out).1,(box2 HM7.out).2.1,(box2 HY7.out).1,(box2 HY7.out).2.1⟩
       refine hK.out _ _ (fun _=>hT) ?_
       clear hK K
       (try simp only [Act.put,Till.a,Till.b,Till.c])
       refine Till.step (i:=6) (by kernel_rfl) rfl ?_
       intro K hK
       go_simp
       (go_at_call 80;refine (plus_r _ (x:=((V:Nat):Int)) (y:=-((Y:Nat):Int)) (((Big.below (w:=w2.drew) Hr2.out HB5.out).below HB6.out).below HB7.out) HV7.out sr4 snY).mono ?_;rintro e w8 ⟨s8,A8,n8,c8,rfl,hv8,hb8⟩;rw [EV1.out] at hv8;(have HQ8:=Hd (Qaa HQ7.out hb8));(have HM8:=Hd (Qaa HM7.out hb8));(have HY8:=Hd (Qaa HY7.out hb8));obtain ⟨q80,q81,q82,q83,-⟩:=box2 HQ8.out;obtain ⟨m80,m81,m82,m83,-⟩:=box2 HM8.out;obtain ⟨y80,y81,-,-,-⟩:=box2 HY8.out;(have HB8:=Hd hb8);(have HV8:=Hd hv8);clear hb8 hv8)
       have hT:(fun w':World=>w'.cell? ⟨N,0,none⟩=some (.bool sq)/\w'.cell? ⟨N,1,none⟩=some (.slice Aq nq cq)/\w'.cell? ⟨N+1,0,none⟩=some (.bool sr)/\w'.cell? ⟨N+1,1,none⟩=some (.slice Ar nr cr)/\w'.cell? ⟨w.heap.size+1,0,none⟩=some (.bool t)/\w'.cell? ⟨w.heap.size+1,1,none⟩=some (.slice B k d)) w8:=⟨(box2 HQ8.out).1,(box2 HQ8.out).2.1,(box2 HM8.out).1,(box2 HM8.out).2.1,(box2 HY8.out).1,(box2 HY8.out).2.1⟩
       refine hK.out _ _ (fun _=>hT) ?_
       clear hK K
       (try simp only [Act.put,Till.a,Till.b,Till.c])
       refine Till.step (i:=7) (by kernel_rfl) rfl ?_
       intro K hK
       go_simp
       refine hK.out _ _ (fun h=>absurd h (by decide)) ?_
       clear hK K
       (try simp only [Act.put,Till.a,Till.b,Till.c])
       refine Till.step (i:=8) (by kernel_rfl) rfl ?_
       intro K hK
       go_simp
       refine hK.out _ _ (fun h=>absurd h (by decide)) ?_
       clear hK K
       (try simp only [Act.put,Till.a,Till.b,Till.c])
       refine Till.done (by kernel_rfl) ?_ _
       all_goals
        obtain ⟨k1,k2,k3,k4,k5,k6⟩:=two_sets (w:=w) (.bool s6) (.slice A6 n6 c6) (.bool s8) (.slice A8 n8 c8) HQ8.out HM8.out _ rfl
        have hR8:=Qaa (Qaa (Qaa (Qaa (w:=w2.drew) HR2.out HB5.out) HB6.out) HB7.out) HB8.out
        have hS8:=Qaa (Qaa (Qaa (Qaa (w:=w2.drew) HS2.out HB5.out) HB6.out) HB7.out) HB8.out
        have hT8:=Qaa (Qaa (Qaa (Qaa (w:=w2.drew) HT2.out HB5.out) HB6.out) HB7.out) HB8.out
        have hbits8:=(((Dig.below (w:=w2.drew) Hbits2.out HB5.out).below HB6.out).below HB7.out).below HB8.out
        have htwo8:=(((Big.below (w:=w2.drew) Htwo2.out HB5.out).below HB6.out).below HB7.out).below HB8.out
        have hB5:=Qab HB5.out HB2.out.drew (by exact HB2.out.size)
        have hB6:=Qab HB6.out hB5 hB5.size
        have hB7:=Qab HB7.out hB6 hB6.size
        have hB8:=Qab HB8.out hB7 hB7.size
        have hv68:=(HV6.out.below HB7.out).below HB8.out
        have hlN:=Qan hR8
        have hst9:=And.intro k1 (And.intro k2 (And.intro (k4 _ _ _ _ _ hv68) (And.intro (k4 _ _ _ _ _ HV8.out) (And.intro (k3 _ _ n3 n4 hT8) (And.intro (k4 _ _ _ _ _ htwo8) (And.intro (k5 _ _ _ hbits8) (And.intro (k3 _ _ m1 m2 HY8.out) (And.intro (k3 _ _ m3 m4 hR8) (And.intro (k3 _ _ m5 m6 hS8) (k6 _ hwN hB8))))))))))
        have HST9:=Hd hst9
        clear hst9 k1 k2 k3 k4 k5 k6 hR8 hS8 hT8 hbits8 htwo8 hB5 hB6 hB7 hB8 hv68
        go_wp2
        go_roundw
        case rel=>
         obtain ⟨d1,d2⟩:=HST.out.2 hYV
         exact ⟨j,by omega,rfl,by rw [HDR.out,d1,d2];exact ⟨s6,A6,n6,c6,s8,A8,n8,c8,HST9.out⟩⟩
        case measure=>simp [intOf]
      ·have hYV:V<Y:=by
        have h1:¬ (0:Int)<=((V:Nat):Int)-((Y:Nat):Int):=fun h=>hge (hσ0.2 h)
        omega
       clear hσ0
       go_wp2
       go_roundw
       case rel=>
        obtain ⟨d1,d2⟩:=HST.out.1 hYV
        exact ⟨j,by omega,rfl,by rw [HDR.out,d1,d2];exact ⟨sq,Aq,nq,cq,sr,Ar,nr,cr,hQ2,hM2,hq2,hr2,hT2,htwo2,hbits2,hY2,hR2,hS2,hB2⟩⟩
       case measure=>simp [intOf]
  ·have HS:=Hd (show (if (Z:Int)<0 then (-1:Int) else if (Z:Int)=0 then 0 else 1)=1 by rw [if_neg (by omega),if_neg (by omega)])
   have hlen:=bits_len (bs:=bs) (Z:=Z) HV.out SX.out hZ
   have hm2:(Z:Int)%2=((Z%2:Nat):Int):=by omega
   have hd2:(Z:Int)/2=((Z/2:Nat):Int):=by omega
   have HM:=Hd hm2;have HD:=Hd hd2
   have sz:Small (Z:Int):=small_part HV.out SX.out
   clear hm2 hd2
   go_wp2_with fail
   refine (sign_r hbig).mono ?_
   rintro e w1 ⟨hb1,rfl⟩
   rw [HS.out]
   have hO1:=Qaa hO hb1
   have hY1:=Qaa hY hb1
   have hR1:=Qaa hR hb1
   have hS1:=Qaa hS hb1
   have hB1:=Qab hb1 hB hz
   have hown1:=QaM hown hb1
   have hbig1:=hbig.below hb1
   clear hO hY hR hS hown hbig hB o0 o1 hap
   obtain ⟨o0,o1,-,-,-⟩:=box2 hO1
   go_wp2_with fail
   refine (half_r _ hbig1 sz (by omega)).mono ?_
   rintro e w2 ⟨sm,Am,nm,cm,rfl,hm,hfr,hb2⟩
   rw [HM.out]
   rw [HD.out] at hm
   have hO2:=Qaa hO1 hb2
   have hY2:=Qaa hY1 hb2
   have hR2:=Qaa hR1 hb2
   have hS2:=Qaa hS1 hb2
   have hB2:=Qab hb2 hB1 hB1.size
   have hown2:=QaM hown1 hb2
   have hap:Apart w2 Am nm (.slice Ab bs.length cb):=fun _ a e=>⟨(hfr a e).2,own_apart hown1 (Nat.le_of_lt (hfr a e).1)⟩
   clear hO1 hY1 hR1 hS1 hown1 hbig1 o0 o1 hfr
   go_upto_region 5 with fail
   have hE:=Qac w2 (.cells #[.bool sm,.slice Am nm cm] 77) rfl
   have hO3:=Qad hO2 (.cells #[.bool sm,.slice Am nm cm] 77)
   have hY3:=Qad hY2 (.cells #[.bool sm,.slice Am nm cm] 77)
   have hR3:=Qad hR2 (.cells #[.bool sm,.slice Am nm cm] 77)
   have hS3:=Qad hS2 (.cells #[.bool sm,.slice Am nm cm] 77)
   have hB3:=hB2.alloc hB2.size (.cells #[.bool sm,.slice Am nm cm] 77)
   have hown3:=hown2.alloc (.cells #[.bool sm,.slice Am nm cm] 77)
   have hm3:=hm.alloc (.cells #[.bool sm,.slice Am nm cm] 77)
   have hap3:Apart (w2.alloc (.cells #[.bool sm,.slice Am nm cm] 77)) Am nm (.slice Ab bs.length cb):=fun h a e=>⟨by rw [World.size_alloc];have:=(hap h a e).1;omega,(hap h a e).2⟩
   have hzE:g<w2.heap.size:=Qan hO2
   generalize w2.heap.size=E at *
   generalize w2.alloc (.cells #[.bool sm,.slice Am nm cm] 77)=w3 at *
   clear hO2 hY2 hR2 hS2 hB2 hown2 hm hap hb2
   have hz3:=hB3.size
   obtain ⟨e0,e1,-,-,e4⟩:=box2 hE
   obtain ⟨o0,o1,o2,o3,o4⟩:=box2 hO3
   go_region_law (refine step_append_lies _ rfl (.tmp 23) (.tmp 25) 75 rfl w.heap.size 3 i0 (.int .i64 0) 1 8 Tryz.underlying75 hi hz0 hz1 hz2 rfl (by omega) (.slice Ab bs.length cb) bs.length (digV .i64 bs) rfl (by exact hown3.alloc (.cells #[.int .i64 ((Z:Int)%2)] 3)) ⟨w3.heap.size,0,none⟩ 1 1 [.int .i64 ((Z:Int)%2)] rfl rfl (by exact one_cell w3 (.int .i64 ((Z:Int)%2)) 3) (by simp [Value.oneCell']) (by omega) (by unfold maxLen;omega) (by omega) (by simp;omega) _ rfl ?_;intro G cap w4 hown4 hg4 hat4 hlt4;(have hg4:=Qbc (grown_drew hg4));(have hE4:=Qam hE hown3 hg4 (by decide));(have hO4:=Qam hO3 hown3 hg4 (by decide));obtain ⟨q0,q1,-,-,-⟩:=box2 hE4;obtain ⟨p0,p1,p2,p3,p4⟩:=box2 hO4)
   all_goals
    have hsz4:=hg4.size
    have hY4:=Qam hY3 hown3 hg4 (by decide)
    have hR4:=Qam hR3 hown3 hg4 (by decide)
    have hS4:=Qam hS3 hown3 hg4 (by decide)
    have hB4:=hB3.grown hg4 hz3 (own_ge hown3)
    have hm4:Big .i64 3 B6 w4 sm Am nm cm ((Z/2:Nat):Int):=by
     obtain ⟨l,hd,rest⟩:=hm3
     exact ⟨l,hd.grown hg4 hap3,rest⟩
    have hap4:Apart w4 Am nm (.slice (some ⟨G,0,none⟩) (bs.length+1) cap):=apart_snoc hap3 rfl hsz4 (by rcases hat4 with h | h;exact .inl h;exact .inr (by rw [h];exact World.size_alloc _ _))
    have hrow:digV .i64 bs++[.int .i64 ((Z:Int)%2)]=digV .i64 (bs++[Z%2]):=by rw [QaS,HM.out]
    rw [hrow] at hown4
    have hO5:((w4.setCell ⟨g,0,none⟩ (.bool sm)).setCell ⟨g,1,none⟩ (.slice Am nm cm)).heap[g]?=some (.cells #[.bool sm,.slice Am nm cm] 77 (0,0)):=by
     have:=Qae (Qae hO4 0 (.bool sm)) 1 (.slice Am nm cm)
     simpa using this
    have hY5:=Qaf (Qaf hY4 (p:=⟨g,0,none⟩) (by dsimp only;omega) (.bool sm)) (p:=⟨g,1,none⟩) (by dsimp only;omega) (.slice Am nm cm)
    have hR5:=Qaf (Qaf hR4 (p:=⟨g,0,none⟩) (by dsimp only;omega) (.bool sm)) (p:=⟨g,1,none⟩) (by dsimp only;omega) (.slice Am nm cm)
    have hS5:=Qaf (Qaf hS4 (p:=⟨g,0,none⟩) (by dsimp only;omega) (.bool sm)) (p:=⟨g,1,none⟩) (by dsimp only;omega) (.slice Am nm cm)
    have hB5:=(hB4.setCell (p:=⟨g,0,none⟩) (by dsimp only;omega) (.bool sm)).setCell (p:=⟨g,1,none⟩) (by dsimp only;omega) (.slice Am nm cm)
    have hown5:=Qbm (Qbm hown4 hO4 (by decide) (.bool sm) (i:=0)) (Qae hO4 0 (.bool sm)) (by decide) (.slice Am nm cm) (i:=1)
    have hm5:=hm4.box2 hO4 (by decide) (.bool sm) (.slice Am nm cm)
    have hap5:Apart ((w4.setCell ⟨g,0,none⟩ (.bool sm)).setCell ⟨g,1,none⟩ (.slice Am nm cm)) Am nm (.slice (some ⟨G,0,none⟩) (bs.length+1) cap):=fun h a e=>⟨by simpa using (hap4 h a e).1,(hap4 h a e).2⟩
    generalize (w4.setCell ⟨g,0,none⟩ (.bool sm)).setCell ⟨g,1,none⟩ (.slice Am nm cm)=w6 at hO5 hY5 hR5 hS5 hB5 hown5 hm5 hap5 ⊢
    clear hO4 hY4 hR4 hS4 hB4 hown4 hm4 hap4 hat4 q0 q1 p0 p1 p2 p3 p4 hE4 hlt4 hsz4 hg4
    clear hO3 hY3 hR3 hS3 hB3 hown3 hm3 hap3 hE e0 e1 e4 o0 o1 o2 o3 o4
    have hz6:=hB5.size
    have hlt6:=Qan hO5
    obtain ⟨o0,o1,-,-,-⟩:=box2 hO5
    go_wp2
    go_roundw
    case rel=>
     have e2:bs.length+1=(bs++[Z%2]).length:=by simp
     rw [e2] at hown5 hap5
     rw [e2]
     exact ⟨bs++[Z%2],some ⟨G,0,none⟩,cap,w6.heap.size,sm,Am,nm,cm,Z/2,rfl,rfl,by omega,fun h a e=>⟨by rw [World.size_alloc];have:=(hap5 h a e).1;omega,(hap5 h a e).2⟩,gbs.snoc (Nat.mod_lt _ (by decide)),bits_snoc HV.out,
      hown5.alloc _,hm5.alloc _,Qac _ _ rfl,Qad hY5 _,Qad hR5 _,Qad hS5 _,hB5.alloc hz6 _⟩
    case measure=>simp only [lenV];simp;omega
theorem horner {l:List Nat} {j:Nat} (h:j<l.length):val B6 (l.drop j)=val B6 (l.drop (j+1))*1000000+dg l j:=by
 rw [drop_dg h,Qba];unfold B6;omega
theorem drop_le6 (l:List Nat) (j:Nat):val B6 (l.drop j)<=val B6 l:=by
 rcases Nat.lt_or_ge l.length j with h | h
 ·rw [List.drop_of_length_le (by omega)];exact Nat.zero_le _
 ·have h1:=val_split B6 l j h
  have h2:1*val B6 (l.drop j)<=B6 ^ j*val B6 (l.drop j):=Nat.mul_le_mul_right _ (Nat.pow_pos (by decide))
  omega
theorem small_r (w:World) {s:Bool} {A:Option Addr} {n c:Nat} {z:Int} (L:Nat) (h:Big .i64 3 B6 w s A n c z) (hL:L<=1000000000000000000) :
  Calls Tryz.prog 85 #[.agg #[.bool s,.slice A n c],.int .i64 (L:Int)] w fun e w'=>e=.returned (.tuple #[.int .i64 (fitV z L),.bool (fitB z L)])/\Below w.heap.size w w':=by
 obtain ⟨l,hd,hnc,hcm,gl,nl,sl,rfl⟩:=h
 have hfd:∀ (b:Bool) (X:Option Addr) (i j:Nat) (w:World),(Instr.field 77 (.agg #[.bool b,.slice X i j]) 1).run Tryz.prog w=.ok (.slice X i j) w:=fun _ _ _ _ _=>by kernel_rfl
 have HL:=Hd hd.1
 have hcm':c<=9223372036854775807:=by unfold maxLen at hcm;omega
 go_enter Tryz.func85,Tryz.ntmps85
 go_wp2_with fail
 have hX:=Qac w (.cells #[.bool s,.slice A n c] 77) rfl
 have hB:Below w.heap.size w (w.alloc (.cells #[.bool s,.slice A n c] 77)):=by go_grown
 have hd1:=hd.alloc (.cells #[.bool s,.slice A n c] 77)
 generalize w.alloc (.cells #[.bool s,.slice A n c] 77)=w1 at hX hB hd1 ⊢
 obtain ⟨x0,x1,-,-,-⟩:=box2 hX
 have hz:=hB.size
 go_region_held3 (fun w'=>w'.cell? ⟨w.heap.size,0,none⟩=some (.bool s)/\w'.cell? ⟨w.heap.size,1,none⟩=some (.slice A n c))
  (first | (with_reducible exact ⟨x50,x51⟩) | (exact ⟨x0,x1⟩) | (exact ⟨x50,x51⟩) | (go_keep;done))
  (first
   | (go_at_call 83;refine (of_r ((L:Nat):Int) _ (by omega)).mono ?_;rintro e w5 ⟨s5,A5,n5,c5,rfl,hv5,hb5⟩;obtain ⟨l5,hd5,hnc5,hcm5,gl5,nl5,sl5,he5⟩:=hv5;(have hX5:=Qaa (w:=w1.drew) hX hb5);(have hd6:=Dig.below (w:=w1.drew) hd1 hb5);obtain ⟨x50,x51,-,-,-⟩:=box2 hX5;(have HE5:=Hd he5);clear he5)
   | (go_at_call 142;refine (sizes_r l l5 A A5 n c n5 c5 _ hd6 hnc hcm hd5 hnc5 hcm5 gl gl5 nl nl5).mono ?_;rintro e w6 ⟨r,rfl,hr,q,rfl⟩;(have HR:=Hd hr);clear hr))
 have hX6:(w5.drewN q).heap[w.heap.size]?=some (.cells #[.bool s,.slice A n c] 77 (0,0)):=by exact hX5
 have hd7:Dig (w5.drewN q) .i64 3 A n l:=by exact hd6
 have hB6:Below w.heap.size w (w5.drewN q):=below_drewN (Qab hb5 hB.drew hz) q
 have hLv:L=val B6 l5:=by
  have:=HE5.out
  have h2:(sg s5 (val B6 l5)).natAbs=val B6 l5:=Qau _ _
  omega
 have hfit:((sg s (val B6 l)).natAbs<=L)↔¬ (0<r):=by
  rw [Qau,hLv]
  have:=HR.out.2.1
  omega
 have HFIT:=Hd hfit
 have hlim:=HFIT.out
 rw [Qau] at hlim
 generalize w5.drewN q=w6 at *
 clear hX hX5 hd hd1 hd6 hB hb5 x0 x1 x50 x51 hLv hfit hd5 gl5 nl5 sl5 HR HE5
 by_cases hr0:0<r
 ·have e1:fitV (sg s (val B6 l)) L=0:=by unfold fitV;rw [if_neg (fun h=>(HFIT.out.1 h) hr0)]
  have e2:fitB (sg s (val B6 l)) L=false:=by unfold fitB;exact decide_eq_false (fun h=>(HFIT.out.1 h) hr0)
  have E1:=Hd e1;have E2:=Hd e2;clear e1 e2 hlim
  go_wp2
  go_ret2
  exact ⟨by rw [E1.out,E2.out];rfl,hB6⟩
 ·have hle:val B6 l<=L:=hlim.2 hr0
  have e1:fitV (sg s (val B6 l)) L=sg s (val B6 l):=by unfold fitV;rw [if_pos (HFIT.out.2 hr0)]
  have e2:fitB (sg s (val B6 l)) L=true:=by unfold fitB;exact decide_eq_true (HFIT.out.2 hr0)
  have E1:=Hd e1;have E2:=Hd e2;clear e1 e2 hlim
  obtain ⟨x0,x1,-,-,-⟩:=box2 hX6
  go_wp2_with fail
  go_loop [6,7] (fun v i=>∃ j:Nat,j<=n/\i=.int .i64 ((j:Int)-1)/\v=.int .i64 ((val B6 (l.drop j):Nat):Int)) (fun _ i=>(intOf i+1).toNat)
  case atStart=>exact ⟨n,Nat.le_refl _,rfl,by rw [List.drop_of_length_le (by rw [HL.out];exact Nat.le_refl _)];rfl⟩
  case round=>
   obtain ⟨j,hj,rfl,rfl⟩:=hrel
   have hdl:=drop_le6 l j
   rcases j with _ | j
   ·have hv:val B6 (l.drop 0)=val B6 l:=rfl
    rw [hv] at hdl ⊢
    clear hv
    cases s with
    | true=>
     go_wp2
     go_ret2
     exact ⟨by rw [E1.out,E2.out];simp [sg],hB6⟩
    | false=>
     go_wp2
     go_ret2
     exact ⟨by rw [E1.out,E2.out];rfl,hB6⟩
   ·have e:((j+1:Nat):Int)-1=(j:Int):=by omega
    rw [e]
    obtain ⟨g,rfl,hg,hc1⟩:=hd7.at_ (by omega)
    have hx:=hc1 j (by omega)
    clear hc1
    have hlt:(j:Int)<(n:Int):=by omega
    have h0:(0:Int)<=(j:Int):=by omega
    have hh:=horner (l:=l) (j:=j) (by rw [HL.out];omega)
    have hdl2:=drop_le6 l j
    have HH:=Hd hh
    have hb1:val B6 (l.drop (j+1))*1000000+dg l j<=1000000000000000000:=by omega
    clear hh hdl hdl2
    obtain ⟨V,hV⟩:∃ V,V=val B6 (l.drop (j+1)):=⟨_,rfl⟩
    rw [<- hV] at hb1 HH ⊢
    clear hV
    go_wp2
    go_round
    case rel=>exact ⟨j,by omega,rfl,congrArg _ (by rw [HH.out];omega)⟩
    case measure=>simp [intOf]
theorem cell_heap {w:World} {g:Nat} {x y:Value} {T:TypeId} (h:w.heap[g]?=some (.cells #[x,y] T (0,0))):w.cell? ⟨g,0,none⟩=some x/\w.cell? ⟨g,1,none⟩=some y:=⟨(box2 h).1,(box2 h).2.1⟩
theorem Qbb {w:World} {g:Nat} {x y u v:Value} {T:TypeId} (h:w.heap[g]?=some (.cells #[x,y] T (0,0))):((w.setCell ⟨g,0,none⟩ u).setCell ⟨g,1,none⟩ v).heap[g]?=some (.cells #[u,v] T (0,0)):=by
 simpa using Qae (Qae h 0 u) 1 v
theorem QbI {w:World} {g k:Nat} {u v:Value} {o:Obj} (h:w.heap[g]?=some o) (hne:g≠k):((w.setCell ⟨k,0,none⟩ u).setCell ⟨k,1,none⟩ v).heap[g]?=some o :=
 Qaf (Qaf h (p:=⟨k,0,none⟩) hne u) (p:=⟨k,1,none⟩) hne v
theorem QbJ {w:World} {g:Nat} {o:Obj} (h:w.heap[g]?=some o):w.drew.heap[g]?=some o:=h
theorem news1 {w w':World} {o:Obj} (h:Below (w.alloc o).heap.size (w.alloc o) w'):w'.heap[w.heap.size]?=some o:=Qaa (Qac w o rfl) h
theorem news1d {w w':World} {o:Obj} (h:Below (w.alloc o).drew.heap.size (w.alloc o).drew w'):w'.heap[w.heap.size]?=some o:=Qaa (w:=(w.alloc o).drew) (Qac w o rfl) h
theorem news2 {w w':World} {o p:Obj} (h:Below ((w.alloc o).alloc p).heap.size ((w.alloc o).alloc p) w'):w'.heap[w.heap.size]?=some o/\w'.heap[w.heap.size+1]?=some p:=⟨Qaa (Qad (Qac w o rfl) p) h,Qaa (Qac _ p (by simp)) h⟩
theorem news2d {w w':World} {o p:Obj} (h:Below ((w.alloc o).alloc p).drew.heap.size ((w.alloc o).alloc p).drew w'):w'.heap[w.heap.size]?=some o/\w'.heap[w.heap.size+1]?=some p:=⟨Qaa (w:=((w.alloc o).alloc p).drew) (Qad (Qac w o rfl) p) h,Qaa (w:=((w.alloc o).alloc p).drew) (Qac _ p (by simp)) h⟩
end Go.Proofs.YtaiabjiehpcaoaaGreatDoor
